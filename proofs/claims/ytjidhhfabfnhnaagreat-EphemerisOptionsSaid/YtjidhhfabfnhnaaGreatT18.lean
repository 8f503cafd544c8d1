/- Maps whose keys are structs of integers: what a look-up reads, what a store leaves. -/
import Derived.Test.YtjidhhfabfnhnaaGreatT17
import Derived.Test.YtjidhhfabfnhnaaGreatT01
import Derived.MapKept
import Derived.ChangeMaps4
import Derived.Test.YtjidhhfabfnhnaaGreatT04
import Derived.Test.YtjidhhfabfnhnaaGreatT09
import Derived.Laws.StructEq
namespace Go.Proofs.YtjidhhfabfnhnaaGreat
open Go.RowKit Go.Shelf
attribute [local go_sem] Oper.semAt_some
theorem Bc {aK:List iD} {s:St} {pre:List Str} {p:List bP} (y:Str) (h:dA aK s pre=some p):dA aK s (pre++[y])=match dB [nH s y.eY] aK y.sp with
  |none=>none
  |some q=>some (p++q):=by
 rw[DX,h];simp only[dA];cases dB [nH s y.eY] aK y.sp<;>simp
theorem Io {aK:List iD} {l:List fE} {sp:iO} {kn:Int} {xs:List St} {s:St} {out p:List bP} (h:jF aK l sp kn xs=some out) (h2:dA aK s (oW s l sp kn)=some p):jF aK l sp kn (xs++[s])=some (out++p):=by
 rw[NQ,h];simp only[jF,h2];simp
set_option maxRecDepth 100000 in
set_option maxHeartbeats 600000 in
theorem Lh (sats:List St) (aK:List iD) (l:List fE) (SA TA A:Option Addr) (sn sc tn tc un uc:Nat) (a b kn:Int) (w:World) (hS:RA aC 21 w w.heap.size SA sn sc sats) (hT:RA bJ 6 w w.heap.size TA tn tc aK) (hU:RA aI 10 w w.heap.size A un uc l) :
  CallsIn Fence.wide 10 Tryz.prog 15 #[.slice SA sn sc,.slice TA tn tc,.slice A un uc,.agg #[.int .i64 a,.int .i64 b],.int .i64 kn] w (pJ (bU sats aK l ⟨a,b⟩ kn) w):=by
 have KQ:=Dv a b;have hval:=fun (W:World) (hx:Ext w W)=>qm sats l SA A sn sc un uc W (aB hS hx) (aB hU hx);have hvst:=fun (W:World) (hx:Ext w W)=>uH aK TA tn tc W (aB hT hx);obtain⟨R,hR⟩:∃R,R=bU sats aK l ⟨a,b⟩ kn:=⟨_,rfl⟩;rw[←hR];unfold bU at hR;have hsp:jD ⟨a,b⟩=true→0≤a∧a<b∧b≤1000000∧b-a≤1440:=fun h=>by simpa [jD]using h
 have hs24:fV sats l=true→sats.length≤24:=fun h=>by
  unfold fV at h;rw[Bool.and_eq_true]at h;exact (vN h.2).1
 generalize jD ⟨a,b⟩=q1 at KQ hR hsp;generalize fV sats l=q2 at hval hR hs24;generalize gU aK=q3 at hvst hR;have HR:=Lib.hid hR;have Sr:=Lib.hid KQ;have xB:=Lib.hid hval;have HVST:=Lib.hid hvst;have Ia:=Lib.hid hsp;have HS24:=Lib.hid hs24;have yR:=Lib.hid hS;have CY:=Lib.hid hT;have Ny:=Lib.hid hU;have hsle:=hS.le;have HSL:=Lib.hid hS.len;clear hR KQ hval hvst hsp hs24 hS hT hU;refine callsIn_of_wp_marks Tryz.func15 rfl trivial ?_ rfl;simp only[Tryz.ntmps15,List.size_toArray,List.length_cons,List.length_nil,Nat.reduceAdd,Nat.reduceSub,Array.replicate_succ,Array.replicate_zero,List.push_toArray,List.append_toArray,List.nil_append,List.cons_append];refine wpIn_wide.2 ?_;go_upto_region 1 with (fail);generalize hW0:(((w.alloc (.cells #[.slice TA tn tc] 29)).alloc (.cells #[.int .i64 a,.int .i64 b] 32)).alloc (.cells #[.slice none 0 0] 36)).alloc (.cells #[.int .i64 0] 41)=W0;obtain⟨g6,hg6⟩:∃k,k=w.heap.size:=⟨_,rfl⟩;obtain⟨g8,hg8⟩:∃k,k=w.heap.size+1:=⟨_,rfl⟩;obtain⟨g10,hg10⟩:∃k,k=w.heap.size+1+1:=⟨_,rfl⟩;obtain⟨g11,hg11⟩:∃k,k=w.heap.size+1+1+1:=⟨_,rfl⟩;have K6:aG W0 g6 29 #[.slice TA tn tc]:=by subst hW0;exact (((aG.bC _ _ _ (by simp[hg6])).alloc _).alloc _).alloc _
 have K8:aG W0 g8 32 #[.int .i64 a,.int .i64 b]:=by subst hW0;exact ((aG.bC _ _ _ (by simp[hg8])).alloc _).alloc _
 have K10:aG W0 g10 36 #[.slice none 0 0]:=by subst hW0;exact (aG.bC _ _ _ (by simp[hg10])).alloc _
 have yH:aG W0 g11 41 #[.int .i64 0]:=by subst hW0;exact aG.bC _ _ _ (by simp[hg11])
 have hB:Ext w W0:=by subst hW0;exact aj (aj (aj (aj (Below.refl _ _) _) _) _) _
 rw[←hg11,←hg10,←hg8,←hg6];have h611:g6<g8∧g8<g10∧g10<g11∧w.heap.size≤g6:=by omega
 obtain⟨h68,h810,h1011,h6w⟩:=h611;have FN:Hid (w.heap.size≤g10):=Lib.hid (by omega);have Lj:Hid (w.heap.size≤g11):=Lib.hid (by omega);clear hW0 hg6 hg8 hg10 hg11;have s0:W0.cell? ⟨g8,0,none⟩=some (.int .i64 a):=K8.cell 0;have s1:W0.cell? ⟨g8,1,none⟩=some (.int .i64 b):=K8.cell 1;go_wp2_with fail;refine (Sr.out _).mono ?_;rintro e W1 ⟨rfl,hx⟩;have K6:=K6.ext hx;have K8:=K8.ext hx;have K10:=K10.ext hx;have yH:=yH.ext hx;have hB:=Ext.trans hB hx;clear hx s0 s1;cases q1
 ·obtain rfl:R=none:=by rw[HR.out];simp
  have f10:W1.frozen? ⟨g10,0,none⟩=false:=K10.frozen 0;have c10:∃u,W1.cell? ⟨g10,0,none⟩=some u:=⟨_,K10.cell 0⟩;obtain⟨u10_,c10⟩:=c10;have Bd:=K10.cZ 0 (.slice none 0 0);have qF:=yH.far (p:=⟨g10,0,none⟩) (show g11≠g10 by omega) (.slice none 0 0);have f11:(W1.setCell ⟨g10,0,none⟩ (.slice none 0 0)).frozen? ⟨g11,0,none⟩=false:=qF.frozen 0;have c11:(W1.setCell ⟨g10,0,none⟩ (.slice none 0 0)).cell? ⟨g11,0,none⟩=some (.int .i64 0):=qF.cell 0;have xM:=Bd.far (p:=⟨g11,0,none⟩) (show g10≠g11 by omega) (.int .i64 360);have Bf:=qF.cZ 0 (.int .i64 360);have Ll:Hid (aG ((W1.setCell ⟨g10,0,none⟩ (.slice none 0 0)).setCell ⟨g11,0,none⟩ (.int .i64 360)) g10 36 #[.slice none 0 0]):=Lib.hid xM;have Lm:Hid (aG ((W1.setCell ⟨g10,0,none⟩ (.slice none 0 0)).setCell ⟨g11,0,none⟩ (.int .i64 360)) g11 41 #[.int .i64 360]):=Lib.hid Bf;have DY:Hid (Ext w ((W1.setCell ⟨g10,0,none⟩ (.slice none 0 0)).setCell ⟨g11,0,none⟩ (.int .i64 360))):=Lib.hid ((hB.setCell (p:=⟨g10,0,none⟩) FN.out (.slice none 0 0)).setCell (p:=⟨g11,0,none⟩) Lj.out (.int .i64 360));clear Bd qF xM Bf;have z10:((W1.setCell ⟨g10,0,none⟩ (.slice none 0 0)).setCell ⟨g11,0,none⟩ (.int .i64 360)).cell? ⟨g10,0,none⟩=some (.slice none 0 0):=Ll.out.cell 0;have z11:((W1.setCell ⟨g10,0,none⟩ (.slice none 0 0)).setCell ⟨g11,0,none⟩ (.int .i64 360)).cell? ⟨g11,0,none⟩=some (.int .i64 360):=Lm.out.cell 0;go_wp2_with fail;exact⟨.tuple #[.slice none 0 0,.int .i64 360],by simp[results,Tryz.results15,go_sem,z10,z11],rfl,DY.out⟩
 ·go_wp2_with fail;refine (xB.out W1 hB).mono ?_;rintro e W2 ⟨rfl,hx⟩;have K6:=K6.ext hx;have K8:=K8.ext hx;have K10:=K10.ext hx;have yH:=yH.ext hx;have hB:=Ext.trans hB hx;clear hx;cases q2
  ·obtain rfl:R=none:=by rw[HR.out];simp
   have f10:W2.frozen? ⟨g10,0,none⟩=false:=K10.frozen 0;have c10:∃u,W2.cell? ⟨g10,0,none⟩=some u:=⟨_,K10.cell 0⟩;obtain⟨u10_,c10⟩:=c10;have Bd:=K10.cZ 0 (.slice none 0 0);have qF:=yH.far (p:=⟨g10,0,none⟩) (show g11≠g10 by omega) (.slice none 0 0);have f11:(W2.setCell ⟨g10,0,none⟩ (.slice none 0 0)).frozen? ⟨g11,0,none⟩=false:=qF.frozen 0;have c11:(W2.setCell ⟨g10,0,none⟩ (.slice none 0 0)).cell? ⟨g11,0,none⟩=some (.int .i64 0):=qF.cell 0;have xM:=Bd.far (p:=⟨g11,0,none⟩) (show g10≠g11 by omega) (.int .i64 360);have Bf:=qF.cZ 0 (.int .i64 360);have Ll:Hid (aG ((W2.setCell ⟨g10,0,none⟩ (.slice none 0 0)).setCell ⟨g11,0,none⟩ (.int .i64 360)) g10 36 #[.slice none 0 0]):=Lib.hid xM;have Lm:Hid (aG ((W2.setCell ⟨g10,0,none⟩ (.slice none 0 0)).setCell ⟨g11,0,none⟩ (.int .i64 360)) g11 41 #[.int .i64 360]):=Lib.hid Bf;have DY:Hid (Ext w ((W2.setCell ⟨g10,0,none⟩ (.slice none 0 0)).setCell ⟨g11,0,none⟩ (.int .i64 360))):=Lib.hid ((hB.setCell (p:=⟨g10,0,none⟩) FN.out (.slice none 0 0)).setCell (p:=⟨g11,0,none⟩) Lj.out (.int .i64 360));clear Bd qF xM Bf;have z10:((W2.setCell ⟨g10,0,none⟩ (.slice none 0 0)).setCell ⟨g11,0,none⟩ (.int .i64 360)).cell? ⟨g10,0,none⟩=some (.slice none 0 0):=Ll.out.cell 0;have z11:((W2.setCell ⟨g10,0,none⟩ (.slice none 0 0)).setCell ⟨g11,0,none⟩ (.int .i64 360)).cell? ⟨g11,0,none⟩=some (.int .i64 360):=Lm.out.cell 0;go_wp2_with fail;exact⟨.tuple #[.slice none 0 0,.int .i64 360],by simp[results,Tryz.results15,go_sem,z10,z11],rfl,DY.out⟩
  ·have c6:W2.cell? ⟨g6,0,none⟩=some (.slice TA tn tc):=K6.cell 0;go_wp2_with fail;refine (HVST.out W2 hB).mono ?_;rintro e W3 ⟨rfl,hx⟩;have K6:=K6.ext hx;have K8:=K8.ext hx;have K10:=K10.ext hx;have yH:=yH.ext hx;have hB:=Ext.trans hB hx;clear hx c6;cases q3
   ·obtain rfl:R=none:=by rw[HR.out];simp
    have f10:W3.frozen? ⟨g10,0,none⟩=false:=K10.frozen 0;have c10:∃u,W3.cell? ⟨g10,0,none⟩=some u:=⟨_,K10.cell 0⟩;obtain⟨u10_,c10⟩:=c10;have Bd:=K10.cZ 0 (.slice none 0 0);have qF:=yH.far (p:=⟨g10,0,none⟩) (show g11≠g10 by omega) (.slice none 0 0);have f11:(W3.setCell ⟨g10,0,none⟩ (.slice none 0 0)).frozen? ⟨g11,0,none⟩=false:=qF.frozen 0;have c11:(W3.setCell ⟨g10,0,none⟩ (.slice none 0 0)).cell? ⟨g11,0,none⟩=some (.int .i64 0):=qF.cell 0;have xM:=Bd.far (p:=⟨g11,0,none⟩) (show g10≠g11 by omega) (.int .i64 360);have Bf:=qF.cZ 0 (.int .i64 360);have Ll:Hid (aG ((W3.setCell ⟨g10,0,none⟩ (.slice none 0 0)).setCell ⟨g11,0,none⟩ (.int .i64 360)) g10 36 #[.slice none 0 0]):=Lib.hid xM;have Lm:Hid (aG ((W3.setCell ⟨g10,0,none⟩ (.slice none 0 0)).setCell ⟨g11,0,none⟩ (.int .i64 360)) g11 41 #[.int .i64 360]):=Lib.hid Bf;have DY:Hid (Ext w ((W3.setCell ⟨g10,0,none⟩ (.slice none 0 0)).setCell ⟨g11,0,none⟩ (.int .i64 360))):=Lib.hid ((hB.setCell (p:=⟨g10,0,none⟩) FN.out (.slice none 0 0)).setCell (p:=⟨g11,0,none⟩) Lj.out (.int .i64 360));clear Bd qF xM Bf;have z10:((W3.setCell ⟨g10,0,none⟩ (.slice none 0 0)).setCell ⟨g11,0,none⟩ (.int .i64 360)).cell? ⟨g10,0,none⟩=some (.slice none 0 0):=Ll.out.cell 0;have z11:((W3.setCell ⟨g10,0,none⟩ (.slice none 0 0)).setCell ⟨g11,0,none⟩ (.int .i64 360)).cell? ⟨g11,0,none⟩=some (.int .i64 360):=Lm.out.cell 0;go_wp2_with fail;exact⟨.tuple #[.slice none 0 0,.int .i64 360],by simp[results,Tryz.results15,go_sem,z10,z11],rfl,DY.out⟩
   ·obtain⟨h1,h2,h3,h4⟩:0≤a∧a<b∧b≤1000000∧b-a≤1440:=by first | exact Ia.out rfl | exact Ia.out trivial
    have h24:sats.length≤24:=by first | exact HS24.out rfl | exact HS24.out trivial
    have hRr:R=(match jF aK l ⟨a,b⟩ kn sats with | none=>none | some o=>if o.length≤64 then some (bM (ltOf aU) o) else none):=HR.out.trans (if_pos rfl);have HRR:=Lib.hid hRr;have HEI0:Hid (EI w g6 g8 g10 g11 TA tn tc a b [] [] W3):=Lib.hid ⟨K6,K8,⟨_,K10,World.ownsRow_nil _ _ _ _,fun _=>rfl⟩,yH,hB,dW.nil _ _⟩;clear hRr HR Sr xB HVST Ia HS24 K6 K8 K10 yH hB;go_wp2_with fail;refine wp_loop (fun a_ w_=>∃(ds:List Deferred) (u13 u35 u36 u37 u38 u39 u40 u41 u42 u43 u63 u34:Value),(∃(k:Nat) (Ds:List Nat) (out:List bP),k≤sn∧u34=.int .i64 k∧ds=Ds.map mark∧Hid (jF aK l ⟨a,b⟩ kn (sats.take k)=some out)∧Hid (EI w g6 g8 g10 g11 TA tn tc a b out Ds w_))∧a_={ tmps:=#[.slice SA sn sc,.slice TA tn tc,.slice A un uc,.agg #[.int .i64 a,.int .i64 b],.int .i64 kn,undef,.pointer (some ⟨g6,0,none⟩),undef,.pointer (some ⟨g8,0,none⟩),undef,.pointer (some ⟨g10,0,none⟩),.pointer (some ⟨g11,0,none⟩),undef,u13,undef,undef,undef,undef,.agg #[.int .i64 a,.int .i64 b],.bool true,.bool false,.bool false,.slice SA sn sc,.slice A un uc,.bool true,.bool false,.bool false,.bool false,.slice TA tn tc,.bool true,.bool false,.bool false,.slice SA sn sc,.int .i64 (sn:Int),u34,u35,u36,u37,u38,u39,u40,u41,u42,u43,undef,undef,undef,undef,undef,undef,undef,undef,undef,undef,undef,undef,undef,undef,undef,undef,undef,undef,undef,u63,undef,undef,undef,undef,undef,undef],defers:=ds }) (fun a_ _=>sn-(intOf (a_.tmps.getD 34 undef)).toNat) ?_ ?_
    ·exact⟨[],_,_,_,_,_,_,_,_,_,_,_,_,⟨0,[],[],Nat.zero_le _,rfl,rfl,Lib.hid rfl,HEI0⟩,rfl⟩
    ·clear HEI0;intro a_ wr hinv;obtain⟨ds,hinv⟩:=hinv;obtain⟨u13,hinv⟩:=hinv;obtain⟨u35,hinv⟩:=hinv;obtain⟨u36,hinv⟩:=hinv;obtain⟨u37,hinv⟩:=hinv;obtain⟨u38,hinv⟩:=hinv;obtain⟨u39,hinv⟩:=hinv;obtain⟨u40,hinv⟩:=hinv;obtain⟨u41,hinv⟩:=hinv;obtain⟨u42,hinv⟩:=hinv;obtain⟨u43,hinv⟩:=hinv;obtain⟨u63,hinv⟩:=hinv;obtain⟨u34,hinv⟩:=hinv;obtain⟨⟨k,Ds,out,hk,rfl,rfl,HALL,WX⟩,rfl⟩:=hinv;by_cases hks:k<sn
     ·obtain⟨bb,oo,hz,hA,hbl,hc⟩:=RA.range gJ (yR.out.below WX.out.below) hks;have hall:sats.take (k+1)=sats.take k++[sats[k]]:=List.take_succ_eq_append_getElem hz;have hole:=all_le aK l ⟨a,b⟩ kn (by dsimp only;omega) (sats.take k) out HALL.out;have hstp:=Ik (aK:=aK) (l:=l) (sp:=⟨a,b⟩) (kn:=kn) hz;generalize sats[k]=s at hc hall hstp;obtain⟨P,hP⟩:∃P,(aC s).toArray=P:=⟨_,rfl⟩;obtain⟨Cj,hP1,_⟩:=zk s P hP;have hbu:=tJ s A un uc kn;obtain⟨Z,hZ⟩:∃Z,(dZ s A un uc kn).toArray=Z:=⟨_,rfl⟩;rw[hP,hZ]at hbu;have qN:=Lib.hid hc;have Bg:=Lib.hid hall;have HSTP:=Lib.hid hstp;have oH:=Lib.hid hP;have ug:=Lib.hid Cj;have wV:=Lib.hid hP1;have Qr:=Lib.hid hbu;have HZZ:=Lib.hid hZ;have hkz:(k:Int)<(sn:Int):=by omega
      have hout:out.length≤2300000:=by rw[List.length_take]at hole;omega
      subst hA;clear hc hall hole hP Cj hP1 hbu hZ hz hstp;have KX:=aG.new wr 53 P;have hx1:Ext wr (wr.alloc (.cells P 53)):=aj (Below.refl _ _) _;go_upto_region 6 with (first | (refine ay rfl _ _ rfl bb (oo+k*21) rfl P (aC s) oH.out _ qN.out Tryz.underlying53 rfl aQ ?_) | (refine aS rfl 53 _ _ rfl _ P rfl rfl (by rw[ug.out];exact aQ) (by rw[ug.out];rfl) wV.out ?_));generalize wr.heap.size=g13 at KX⊢;generalize wr.alloc (.cells P 53)=W4 at KX hx1⊢;have WY:=Lib.hid (WX.out.ext hx1);have OW:=Lib.hid KX;have s0:W4.cell? ⟨g8,0,none⟩=some (.int .i64 a):=WY.out.k8.cell 0;have s1:W4.cell? ⟨g8,1,none⟩=some (.int .i64 b):=WY.out.k8.cell 1;clear KX hx1 WX qN;go_wp2_with (first | (refine ay rfl _ _ rfl g13 0 rfl P (aC s) oH.out _ (aG.range OW.out (aC s) (by rw[←oH.out])) Tryz.underlying53 rfl aQ ?_) | (refine lC rfl _ _ _ _ rfl Z rfl rfl rfl Qr.out ?_));refine (Fe Z a b _).mono ?_;rintro e W5 ⟨rfl,Vr⟩;have hy:Ext W4 W5:=by subst Vr;exact aj (aj (Below.refl _ _) _) _
      have kp:aG W5 W4.heap.size 117 Z:=by subst Vr;exact (aG.new _ _ _).alloc _
      have ks:aG W5 (W4.heap.size+1) 32 #[.int .i64 a,.int .i64 b]:=by subst Vr;exact aG.bC _ _ _ (by simp)
      have Qv:=WY.out.ext hy;have K13:=OW.out.ext hy;rw[←HZZ.out]at kp;clear Vr OW s0 s1 Qr WY;obtain⟨v0,r1,r2,r3⟩:=Qv.row;have hws:=Below.size Qv.below;have hv0:∀q,v0.ownBlock=some q→q<W5.heap.size:=fun q hq=>(World.ownsRow.lt r2 q hq).2;have hml:∀D∈Ds,D<W5.heap.size:=fun D hD=>Qv.marks.lt D hD;have HEIx:=Lib.hid Qv;have OW:=Lib.hid K13;have n1:∀ {g:Nat} {t:TypeId} {cs:Array Value},aG W5 g t cs→t≠75→t≠36→t≠41→¬(g=g10∨g=g11∨v0.ownBlock=some g):=fun hb h1 h2 h3 h=>by
       rcases h with h | h | h
       ·exact aG.Cc hb r1 h2 h
       ·exact aG.Cc hb Qv.k11 h3 h
       ·exact bQ r2 hb (Ne.symm h1) h
      have WZ:SI w g6 g8 g10 g11 g13 P TA tn tc a b aK s out Ds v0 W5.heap.size [] W5:=⟨Qv.k6,Qv.k8,K13,⟨v0,[],rfl,r1,by simpa using r2,by simpa using r3,fun q h=>.inl h⟩,Qv.k11,Qv.below,Qv.marks,Nat.le_refl _⟩;have hub:=Ny.out.below Qv.below;have m1:¬(W4.heap.size=g10∨W4.heap.size=g11∨v0.ownBlock=some W4.heap.size):=n1 kp (by decide) (by decide) (by decide);have m2:¬(W4.heap.size+1=g10∨W4.heap.size+1=g11∨v0.ownBlock=some (W4.heap.size+1)):=n1 ks (by decide) (by decide) (by decide);have Aq:=Lib.hid r2;have HV0:=Lib.hid hv0;have HML:=Lib.hid hml;clear r1 r3 Qv n1 K13 r2 hv0;go_wp2_with fail;refine wpIn_wide.1 (qA (fun q=>q=g10∨q=g11∨v0.ownBlock=some q) w.heap.size (W4.heap.size+1) W4.heap.size s l A un uc kn a b 10 (by omega) hws hub ks kp m2 m1 (by omega) (by omega) (by omega) rfl (SI w g6 g8 g10 g11 g13 P TA tn tc a b aK s out Ds v0 W5.heap.size) (SX w g10 g11 aK s Ds) (si_own hws hml) (sx_own hws hml) (fun _ _ h=>h.size) WZ
       (fun t x Bx=>(t.setIfInBounds 44 (.agg (strCells x.1).toArray)).setIfInBounds 14 (.pointer (some ⟨Bx,0,none⟩))) ?hassign ?hbody ?hdone ?hstop)
      case hassign =>
       intro ly s W K hK;obtain⟨X,hX⟩:∃X,(strCells s.1).toArray=X:=⟨_,rfl⟩;obtain⟨tH,hX1⟩:=tK _ X hX;rw[hX]at hK⊢;have qg:=Lib.hid tH;have kC:=Lib.hid hX1;clear hX tH hX1;simp only[List.setIfInBounds_toArray,List.set_cons_zero,List.set_cons_succ]at hK ⊢
       gi_wp2_with (refine fP rfl 96 _ _ rfl _ X rfl rfl (by rw[qg.out];exact jW) (by rw[qg.out];rfl) kC.out ?_)
       exact hK
      case hbody =>
       intro ly pre x Bx W hI hBx KX hlen;clear WZ hub kp ks m1 m2 hml;simp only[List.setIfInBounds_toArray,List.set_cons_zero,List.set_cons_succ];have hlen2:=vH (fK s l kn) (b-a).toNat a;have hlen3:pre.length<1440:=by omega
       obtain⟨X,hX⟩:∃X,(strCells x.1).toArray=X:=⟨_,rfl⟩;obtain⟨tH,hX1⟩:=tK _ X hX;obtain⟨Y,hY⟩:∃Y,(aN x.1.eY).toArray=Y:=⟨_,rfl⟩;obtain⟨hYs,Jw⟩:=zi _ Y hY;obtain⟨P2,hP2⟩:∃P2,(aC (nH s x.1.eY)).toArray=P2:=⟨_,rfl⟩;obtain⟨hP2s,hP21,hP22⟩:=zk _ P2 hP2;have hxo:∀j v,(aN x.1.eY)[j]?=some v→X[2+j]?=some v:=by rw[←hX];exact NJ x.1
       have hx0:X[0]?=some (.int .i64 x.1.sp.fr):=by rw[←hX];rfl
       have hx1:X[1]?=some (.int .i64 x.1.sp.tt):=by rw[←hX];rfl
       rw[hX]at KX⊢;have HXO:=Lib.hid hxo;have vC:=Lib.hid hY;have Gs:=Lib.hid hYs;have HP2:=Lib.hid hP2;have HP2S:=Lib.hid hP2s;have HI:=Lib.hid hI;have WM:=Lib.hid KX;have OW:=Lib.hid hI.k13;have hW15:Ext W (W.alloc (.cells P 53)):=aj (Below.refl _ _) _;have zq:=aG.new W 53 P;have Vp:=Lib.hid (zq.Le 2 7 (by rw[ug.out];decide));rw[←oH.out]at zq;have K15m:=NR s x.1.eY zq;rw[hP2,oH.out]at K15m;have hW16:Ext W ((W.alloc (.cells P 53)).setCells W.heap.size 2 (aN x.1.eY)):=vX (Nat.le_refl _) _ _ _ hW15;have HL:=Lib.hid hlen3;have KX15:=Lib.hid (KX.ext hW15);have HK15:=Lib.hid K15m;have HW16:=Lib.hid hW16;obtain⟨Ip,hEQ⟩:∃Ip,(W.alloc (.cells P 53)).setCells W.heap.size 2 (aN x.1.eY)=Ip:=⟨_,rfl⟩;rw[hEQ]at HK15 HW16;have Sl:=Lib.hid hEQ;have Td:Ext W (Ip.alloc (.cells P2 53)):=Ext.trans HW16.out (aj (Below.refl _ _) _);have c6:(Ip.alloc (.cells P2 53)).cell? ⟨g6,0,none⟩=some (.slice TA tn tc):=(hI.k6.ext Td).cell 0;have y0:(Ip.alloc (.cells P2 53)).cell? ⟨Bx,0,none⟩=some (.int .i64 x.1.sp.fr):=by
        rw[(KX.ext Td).cell];exact hx0
       have y1:(Ip.alloc (.cells P2 53)).cell? ⟨Bx,1,none⟩=some (.int .i64 x.1.sp.tt):=by
        rw[(KX.ext Td).cell];exact hx1
       have HX17:=Lib.hid Td;clear hX tH hX1 hY hYs Jw hP2 hP2s hP21 hP22 hxo hI hlen2 hlen3 zq KX K15m hW16 hW15 hEQ Td hx0 hx1
       gi_wp2_with (first | (refine dU rfl _ _ rfl g13 0 rfl P (aC s) oH.out _ ?_ Tryz.underlying53 rfl aQ ?_;exact aG.range OW.out (aC s) (by rw[←oH.out])) | (refine fP rfl 53 _ _ rfl _ P rfl rfl (by rw[ug.out];exact aQ) (by rw[ug.out];rfl) wV.out ?_) | (refine dU rfl _ _ rfl Bx 2 rfl Y (aN x.1.eY) vC.out _ ?_ Tryz.underlying51 rfl aZ ?_;exact aG.part KX15.out 2 _ HXO.out) | (refine oh rfl 51 _ _ rfl W.heap.size 2 Y (aN x.1.eY) vC.out rfl rfl ?_ aZ (Il _) ?_;exact Vp.out;rw[Sl.out]) | (refine dU rfl _ _ rfl W.heap.size 0 rfl P2 (aC (nH s x.1.eY)) HP2.out _ ?_ Tryz.underlying53 rfl aQ ?_;exact aG.range HK15.out (aC (nH s x.1.eY)) (by rw[←HP2.out])) | (refine og rfl _ _ _ rfl P2 rfl Tryz.underlying28 21 Ad HP2S.out (by omega) (by omega) ?_))
       have NS:aG (Ip.alloc (.cells P2 53)) Ip.heap.size 53 (aC (nH s x.1.eY)).toArray:=by
        rw[HP2.out];exact aG.new _ _ _
       have hpas:=Lc [nH s x.1.eY] aK (some ⟨Ip.heap.size,0,none⟩) TA 1 1 tn tc x.1.sp.fr x.1.sp.tt _ (RA.one (gJ _) NS) (aB CY.out (Ext.trans HI.out.below HX17.out));refine⟨trivial,CallsIn.inRound _ (callsIn_wide.2 (hpas.mono ?_))⟩;intro e w5 hp;obtain⟨q,hq⟩:∃q,q=dB [nH s x.1.eY] aK ⟨x.1.sp.fr,x.1.sp.tt⟩:=⟨_,rfl⟩;rw[←hq]at hp;obtain⟨k6,k8,k13,⟨v,p,r0,r1,r2,r3,r4⟩,k11,hbl,hmk,hsz⟩:=HI.out;have hsn:=Bc x.1 r0;rw[show x.1.sp=⟨x.1.sp.fr,x.1.sp.tt⟩ from rfl,←hq]at hsn;have hmap:(pre++[x]).map (·.1)=pre.map (·.1)++[x.1]:=by simp
       rw[←hmap]at hsn;clear c6 y0 y1 hpas NS;cases q with
       |none =>
        obtain⟨rfl,hb5⟩:=hp;have hx5:Ext W w5:=Ext.trans HX17.out hb5;have K10:=r1.ext hx5;have yH:=k11.ext hx5;have hB:=Ext.trans hbl hx5;have YX:=Lib.hid (hmk.ext hx5);have yZ:=Lib.hid hx5;have Ai:Hid (dA aK s ((pre++[x]).map (·.1))=none):=Lib.hid hsn;clear hq hsn hmap k6 k8 k13 r0 r1 r2 r3 r4 k11 hbl hmk hsz hb5 hx5;have f10:w5.frozen? ⟨g10,0,none⟩=false:=K10.frozen 0;have c10:∃u,w5.cell? ⟨g10,0,none⟩=some u:=⟨_,K10.cell 0⟩;obtain⟨u10_,c10⟩:=c10;have Bd:=K10.cZ 0 (.slice none 0 0);have qF:=yH.far (p:=⟨g10,0,none⟩) (show g11≠g10 by omega) (.slice none 0 0);have f11:(w5.setCell ⟨g10,0,none⟩ (.slice none 0 0)).frozen? ⟨g11,0,none⟩=false:=qF.frozen 0;have c11:(w5.setCell ⟨g10,0,none⟩ (.slice none 0 0)).cell? ⟨g11,0,none⟩=some (.int .i64 0):=qF.cell 0;have xM:=Bd.far (p:=⟨g11,0,none⟩) (show g10≠g11 by omega) (.int .i64 360);have Bf:=qF.cZ 0 (.int .i64 360);have Ll:Hid (aG ((w5.setCell ⟨g10,0,none⟩ (.slice none 0 0)).setCell ⟨g11,0,none⟩ (.int .i64 360)) g10 36 #[.slice none 0 0]):=Lib.hid xM;have Lm:Hid (aG ((w5.setCell ⟨g10,0,none⟩ (.slice none 0 0)).setCell ⟨g11,0,none⟩ (.int .i64 360)) g11 41 #[.int .i64 360]):=Lib.hid Bf;have DY:Hid (Ext w ((w5.setCell ⟨g10,0,none⟩ (.slice none 0 0)).setCell ⟨g11,0,none⟩ (.int .i64 360))):=Lib.hid ((hB.setCell (p:=⟨g10,0,none⟩) FN.out (.slice none 0 0)).setCell (p:=⟨g11,0,none⟩) Lj.out (.int .i64 360));clear Bd qF xM Bf;clear K10 yH hB
        gi_wp2_with fail
        exact⟨((A_ yZ.out).trans ((KeepsOthers.setCell _ _ _).trans (KeepsOthers.setCell _ _ _))).from _,rfl,Ai.out,Ll.out,Lm.out,DY.out,YX.out.keeps ((KeepsOthers.setCell _ _ _).trans (KeepsOthers.setCell _ _ _))⟩
       |some pss =>
        obtain⟨v2,rfl,hown,hb5⟩:=hp;obtain⟨A2,c2,hv2,-,-⟩:=aX hown;subst hv2;have hpl:pss.length≤64:=xK hq.symm;have hx5:Ext W w5:=Ext.trans HX17.out hb5;have hra:=RA.d_ hown rfl (by omega);have hp2:=AV aK s _ _ r0;have hnn:(out++p).length+pss.length≤10000000:=by
         have:=HL.out;simp only[List.length_append,List.length_map]at hp2⊢;omega
        have hown5:=bT r2 hx5;have hsz5:=hx5.size;have OY:w.heap.size≤W.heap.size:=hbl.size;obtain⟨v3,w6,hr,hg2,hrow2,hnl,hr4⟩:=WW 36 (out++p) pss v w.heap.size _ _ c2 A2 hown5 r3 hra hnn (by omega);obtain⟨A3,c3,hv3,-,-⟩:=aX hrow2;obtain⟨n3,hn3⟩:∃n3,n3=(out++p++pss).length:=⟨_,rfl⟩;rw[←hn3]at hv3;clear hn3;subst hv3;have r1':=(r1.ext hx5).grown hg2 (fun e=>bQ hown5 (r1.ext hx5) (by decide) e.symm);have HK:Hid (KeepsOthers W (w6.setCell ⟨g10,0,none⟩ (.slice A3 n3 c3))):=Lib.hid (((A_ hx5).trans (oM hown5 hg2)).trans (KeepsOthers.setCell _ _ _));have HP:Hid (iW (fun q=>q=g10∨q=g11∨v0.ownBlock=some q) w.heap.size W5.heap.size W (w6.setCell ⟨g10,0,none⟩ (.slice A3 n3 c3))):=Lib.hid (((iW.ext hx5 hws hsz).trans (iW.step hg2 hws (by omega) (fun r e=>by
          rcases r4 r e with h | h
          ·exact .inl ⟨.inr (.inr h),(World.ownsRow.lt Aq.out r h).1⟩
          ·exact .inr h))).trans (iW.step (grownBy_setCell' w6 g10 _) hws (by have:=hg2.size;omega) (fun r e=>by cases e;exact .inl ⟨.inl rfl,FN.out⟩)))
        have xJ:∀ {g:Nat} {t:TypeId} {cs:Array Value},aG W g t cs→75≠t→t≠36→aG (w6.setCell ⟨g10,0,none⟩ (.slice A3 n3 c3)) g t cs:=fun K h1 h2 =>
         ((K.ext hx5).grown hg2 (fun e=>bQ hown5 (K.ext hx5) h1 e.symm)).far (p:=⟨g10,0,none⟩) (aG.Cc K r1 h2) _
        have HI2:Hid (SI w g6 g8 g10 g11 g13 P TA tn tc a b aK s out Ds v0 W5.heap.size (pre++[x]) (w6.setCell ⟨g10,0,none⟩ (.slice A3 n3 c3))):=by
         have hq2:=jH hrow2 (p:=⟨g10,0,none⟩) (fun e=>bQ hrow2 r1' (by decide) e) (.slice A3 n3 c3);rw[List.append_assoc]at hq2 hnl;refine Lib.hid ⟨xJ k6 (by decide) (by decide),xJ k8 (by decide) (by decide),xJ k13 (by decide) (by decide),⟨(.slice A3 n3 c3),p++pss,hsn,r1'.cZ 0 _,hq2,hnl,?_⟩,xJ k11 (by decide) (by decide),?_,hmk.keeps HK.out,Nat.le_trans hsz HK.out.size⟩
         ·intro q hq;rcases hr4 q hq with h | h
          ·exact r4 q h
          ·exact .inr (by omega)
         ·exact ((Ext.trans hbl hx5).grown hg2 (by omega) (fun q e=>(World.ownsRow.lt r2 q e).1)).setCell (p:=⟨g10,0,none⟩) FN.out _
        have HR:=Lib.hid hr;have o1:w6.frozen? ⟨g10,0,none⟩=false:=r1'.frozen 0;have o2:w6.cell? ⟨g10,0,none⟩=some v:=r1'.cell 0;have o0:w5.cell? ⟨g10,0,none⟩=some v:=(r1.ext hx5).cell 0;clear hq hsn hmap k6 k8 k13 r0 r1 r2 r3 r4 k11 hbl hmk hsz hb5 hx5 hown hra hp2 hnn hown5 hsz5 OY hg2 hrow2 hnl hr4 r1' xJ hr hpl
        gi_wp2_with (gi_at_builtin;refine f_ rfl _ _ _ rfl rfl rfl HR.out ?_)
        exact⟨HK.out.from _,HP.out,HI2.out⟩
      case hdone =>
       intro D xs W hD hxs hI hK;obtain⟨k6,k8,k13,⟨v,p,r0,r1,r2,r3,r4⟩,k11,hbl,hmk,hsz⟩:=hI;rw[hxs]at r0;have hal:jF aK l ⟨a,b⟩ kn (sats.take (k+1))=some (out++p):=by
        rw[Bg.out];exact Io HALL.out r0
       have FH:dW w.heap.size (D::Ds) W:=hmk.cons (by omega) hK (fun h=>by have:=HML.out D h;omega);have HEI2:Hid (EI w g6 g8 g10 g11 TA tn tc a b (out++p) (D::Ds) W):=Lib.hid ⟨k6,k8,⟨v,r1,r2,r3⟩,k11,hbl,FH⟩;have HALL2:=Lib.hid hal;clear WZ hub kp ks m1 m2 hml k6 k8 k13 r0 r1 r2 r3 r4 k11 hbl hmk hsz hK hxs hal FH;go_wp2_with fail;go_roundw
       case rel=>exact⟨_,_,_,_,_,_,_,_,_,_,_,_,_,⟨k+1,D::Ds,out++p,by omega,by go_num,rfl,HALL2,HEI2⟩,rfl⟩
       case measure=>simp[intOf];omega
      case hstop =>
       intro D c pre W hD hpre hX hK;obtain⟨rfl,hpn,k10,k11,hbl,hmk⟩:=hX;have hr0:R=none:=by
        rw[HRR.out,HSTP.out (Ba hpre hpn)]
       have FH:dW w.heap.size (D::Ds) W:=hmk.cons (by omega) hK (fun h=>by have:=HML.out D h;omega);have HR0:=Lib.hid hr0;have Ce:=Lib.hid FH;have HEJ:Hid (EJ w g10 g11 (.slice none 0 0) 360 [] W):=Lib.hid ⟨k10,k11,World.ownsRow_nil _ _ _ _,hbl⟩;clear WZ hub kp ks m1 m2 hml k10 k11 hbl hmk hK hr0 FH hpre hpn;refine wpIn_wide.2 ?_;go_wp2_with fail;refine jq (B:=w.heap.size) (J:=EJ w g10 g11 (.slice none 0 0) 360 []) (FM w g10 g11 _ _ _) (fun W' hj=>?_) (D::Ds) _ Ce.out HEJ.out;have hc10:W'.cell? ⟨g10,0,none⟩=some (.slice none 0 0):=hj.k10.cell 0;have hc11:W'.cell? ⟨g11,0,none⟩=some (.int .i64 360):=hj.k11.cell 0;exact⟨.tuple #[.slice none 0 0,.int .i64 360],by simp[results,Tryz.results15,go_sem,hc10,hc11],by rw[HR0.out];exact⟨rfl,hj.below⟩⟩
     ·have hkn:k=sn:=by omega
      have hall:jF aK l ⟨a,b⟩ kn sats=some out:=by
       have h:=HALL.out;rwa[List.take_of_length_le (by rw[HSL.out];omega)]at h
      have hr1:R=if out.length≤64 then some (bM (ltOf aU) out) else none:=by rw[HRR.out,hall]
      obtain⟨v,r1,r2,r3⟩:=WX.out.row;obtain⟨A1,c1,hv1,-,-⟩:=aX r2;subst hv1;have hkz:¬(k:Int)<(sn:Int):=by omega
      have hol:=all_le aK l ⟨a,b⟩ kn (by dsimp only;omega) _ _ hall;have hol2:out.length≤9223372036854775807:=by omega
      have o0:wr.cell? ⟨g10,0,none⟩=some (.slice A1 out.length c1):=r1.cell 0;have o1:wr.frozen? ⟨g10,0,none⟩=false:=r1.frozen 0;have p0:wr.cell? ⟨g11,0,none⟩=some (.int .i64 0):=WX.out.k11.cell 0;have p1:wr.frozen? ⟨g11,0,none⟩=false:=WX.out.k11.frozen 0;have K10:=Lib.hid r1;have yH:=Lib.hid WX.out.k11;have HOWN:=Lib.hid r2;have FP:=Lib.hid r3;have Qu:=Lib.hid WX.out.below;have YX:=Lib.hid WX.out.marks;clear r1 r2 r3 hall hkn hol;by_cases h64:out.length≤64
      ·have hr2:=hr1;rw[if_pos h64]at hr2;have HR0:=Lib.hid hr2;have Tf:(out.length:Int)≤64:=by omega
       clear hr1 hr2;by_cases hz:out.length=0
       ·have hv:=FP.out hz;have hon:out=[]:=List.eq_nil_of_length_eq_zero hz;have HOL:=Lib.hid hon;clear hon;rw[hv]at o0;have xM:Hid (aG wr g10 36 #[.slice none 0 0]):=Lib.hid (by rw[←hv];exact K10.out);clear hv HOWN K10 FP h64 Tf hz;go_wp2_with fail;refine (H9 50 #[] _).mono ?_;rintro e w2 ⟨rfl,rfl⟩;go_wp2_with fail;have hne:g10≠g11:=by omega
        refine jq (B:=w.heap.size) (J:=EJ w g10 g11 (.slice none 0 0) 0 []) (FM w g10 g11 _ _ _) (fun W' hj=>?_) Ds _ (YX.out.keeps ((KeepsOthers.setCell _ _ _).trans (KeepsOthers.setCell _ _ _))) ⟨(xM.out.cZ 0 _).far (p:=⟨g11,0,none⟩) hne _,(yH.out.far (p:=⟨g10,0,none⟩) (Ne.symm hne) _).cZ 0 _,World.ownsRow_nil _ _ _ _,(Qu.out.setCell (p:=⟨g10,0,none⟩) FN.out _).setCell (p:=⟨g11,0,none⟩) Lj.out _⟩;have hc10:W'.cell? ⟨g10,0,none⟩=some (.slice none 0 0):=hj.k10.cell 0;have hc11:W'.cell? ⟨g11,0,none⟩=some (.int .i64 0):=hj.k11.cell 0;exact⟨.tuple #[.slice none 0 0,.int .i64 0],by simp[results,Tryz.results15,go_sem,hc10,hc11],by rw[HR0.out,HOL.out];exact⟨⟨_,rfl,hj.own⟩,hj.below⟩⟩
       ·obtain⟨g,c,hv,hgb,hgl⟩:=World.ownsRow.form HOWN.out (by omega);injection hv with hv1 hv2 hv3;subst hv1;subst hv3;obtain⟨n0,hn0⟩:∃n0,n0=out.length:=⟨_,rfl⟩;have r2:=HOWN.out;have k10:=K10.out;rw[←hn0]at o0 Tf r2 k10 h64 hz hol2;have hrow:aW ak 6 w.heap.size 75 g n0 c1 wr out:=⟨hn0.symm,r2⟩;have hsrt:=OV w.heap.size g n0 c1 out wr hrow (by omega);have HSRT:=Lib.hid hsrt;have hne:g10≠g:=fun e=>bQ r2 k10 (by decide) (by rw[e];rfl);have R1:=Lib.hid k10;have R2:=Lib.hid r2;have NP:=Lib.hid hne;have WV:=Lib.hid hn0;have YZ:g11≠g:=fun e=>bQ r2 yH.out (by decide) (by rw[e];rfl);have HNE11:=Lib.hid YZ;clear r2 k10 hrow hsrt hne hn0 YZ HOWN K10 FP h64 hz;go_wp2_with fail;refine HSRT.out.mono ?_;rintro e w2 ⟨rfl,hrow2,hg2⟩;have k1:=R1.out.grown hg2 (fun e=>NP.out (by injection e));have k2:=yH.out.grown hg2 (fun e=>HNE11.out (by injection e));have hkk:KeepsOthers wr w2:=oM R2.out hg2;have hb2:Ext w w2:=Qu.out.grown hg2 Qu.out.size (fun q e=>by injection e with e;omega);have hl2:(bM (ltOf aU) out).length=n0:=by rw[cu];exact WV.out.symm
        have o0:w2.cell? ⟨g10,0,none⟩=some (.slice (some ⟨g,0,none⟩) n0 c1):=k1.cell 0;have o1:w2.frozen? ⟨g10,0,none⟩=false:=k1.frozen 0;have hne:g10≠g11:=by omega
        have k1':=k1.cZ 0 (.slice (some ⟨g,0,none⟩) n0 c1);have k2':=k2.far (p:=⟨g10,0,none⟩) (Ne.symm hne) (.slice (some ⟨g,0,none⟩) n0 c1);have p0:(w2.setCell ⟨g10,0,none⟩ (.slice (some ⟨g,0,none⟩) n0 c1)).cell? ⟨g11,0,none⟩=some (.int .i64 0):=k2'.cell 0;have p1:(w2.setCell ⟨g10,0,none⟩ (.slice (some ⟨g,0,none⟩) n0 c1)).frozen? ⟨g11,0,none⟩=false:=k2'.frozen 0;have hq1:=jH hrow2.2 (p:=⟨g10,0,none⟩) (fun e=>bQ hrow2.2 k1 (by decide) e) (.slice (some ⟨g,0,none⟩) n0 c1);have hq2:=jH hq1 (p:=⟨g11,0,none⟩) (fun e=>bQ hq1 k2' (by decide) e) (.int .i64 0);have hend:EJ w g10 g11 (.slice (some ⟨g,0,none⟩) n0 c1) 0 (bM (ltOf aU) out) ((w2.setCell ⟨g10,0,none⟩ (.slice (some ⟨g,0,none⟩) n0 c1)).setCell ⟨g11,0,none⟩ (.int .i64 0)):=by
         refine⟨k1'.far (p:=⟨g11,0,none⟩) hne _,k2'.cZ 0 _,?_,(hb2.setCell (p:=⟨g10,0,none⟩) FN.out _).setCell (p:=⟨g11,0,none⟩) Lj.out _⟩;rw[hl2];exact hq2
        have zV:=Lib.hid hend;have Ce:=Lib.hid (YX.out.keeps (hkk.trans ((KeepsOthers.setCell w2 ⟨g10,0,none⟩ (.slice (some ⟨g,0,none⟩) n0 c1)).trans (KeepsOthers.setCell _ ⟨g11,0,none⟩ (.int .i64 0)))));clear hrow2 hg2 k1 k2 hkk hb2 hl2 hend k1' k2' hq1 hq2 hne;go_wp2_with fail;refine jq (B:=w.heap.size) (J:=EJ w g10 g11 (.slice (some ⟨g,0,none⟩) n0 c1) 0 (bM (ltOf aU) out)) (FM w g10 g11 _ _ _) (fun W' hj=>?_) Ds _ Ce.out zV.out;have hc10:W'.cell? ⟨g10,0,none⟩=some (.slice (some ⟨g,0,none⟩) n0 c1):=hj.k10.cell 0;have hc11:W'.cell? ⟨g11,0,none⟩=some (.int .i64 0):=hj.k11.cell 0;exact⟨.tuple #[.slice (some ⟨g,0,none⟩) n0 c1,.int .i64 0],by simp[results,Tryz.results15,go_sem,hc10,hc11],by rw[HR0.out];exact⟨⟨_,rfl,hj.own⟩,hj.below⟩⟩
      ·have hr2:=hr1;rw[if_neg h64]at hr2;have HR0:=Lib.hid hr2;have Tf:¬(out.length:Int)≤64:=by omega
       have h64j:(64:Int)<(out.length:Int):=by omega
       clear hr1 hr2 HOWN FP h64;have hne:g10≠g11:=by omega
       have k1':=K10.out.cZ 0 (.slice none 0 0);have k2':=yH.out.far (p:=⟨g10,0,none⟩) (Ne.symm hne) (.slice none 0 0);have p0:(wr.setCell ⟨g10,0,none⟩ (.slice none 0 0)).cell? ⟨g11,0,none⟩=some (.int .i64 0):=k2'.cell 0;have p1:(wr.setCell ⟨g10,0,none⟩ (.slice none 0 0)).frozen? ⟨g11,0,none⟩=false:=k2'.frozen 0;clear k1' k2';go_wp2_with fail;refine jq (B:=w.heap.size) (J:=EJ w g10 g11 (.slice none 0 0) 360 []) (FM w g10 g11 _ _ _) (fun W' hj=>?_) Ds _ (YX.out.keeps ((KeepsOthers.setCell _ _ _).trans (KeepsOthers.setCell _ _ _))) ⟨(K10.out.cZ 0 _).far (p:=⟨g11,0,none⟩) hne _,(yH.out.far (p:=⟨g10,0,none⟩) (Ne.symm hne) _).cZ 0 _,World.ownsRow_nil _ _ _ _,(Qu.out.setCell (p:=⟨g10,0,none⟩) FN.out _).setCell (p:=⟨g11,0,none⟩) Lj.out _⟩;have hc10:W'.cell? ⟨g10,0,none⟩=some (.slice none 0 0):=hj.k10.cell 0;have hc11:W'.cell? ⟨g11,0,none⟩=some (.int .i64 360):=hj.k11.cell 0;exact⟨.tuple #[.slice none 0 0,.int .i64 360],by simp[results,Tryz.results15,go_sem,hc10,hc11],by rw[HR0.out];exact⟨rfl,hj.below⟩⟩
theorem lM (sats:List St) (aK:List iD) (l:List fE) (SA TA A:Option Addr) (sn sc tn tc un uc:Nat) (a b kn:Int) (w:World) (hS:RA aC 21 w w.heap.size SA sn sc sats) (hT:RA bJ 6 w w.heap.size TA tn tc aK) (hU:RA aI 10 w w.heap.size A un uc l) :
  Calls Tryz.prog 15 #[.slice SA sn sc,.slice TA tn tc,.slice A un uc,.agg #[.int .i64 a,.int .i64 b],.int .i64 kn] w (pJ (bU sats aK l ⟨a,b⟩ kn) w) :=
 callsIn_wide.1 (Lh sats aK l SA TA A sn sc tn tc un uc a b kn w hS hT hU)
end Go.Proofs.YtjidhhfabfnhnaaGreat
namespace Go.Proofs.YtjidhhfabfnhnaaGreat
open Go.RowKit Go.MapKept
def NT (p:Int×Value×Nat):MapEntry:={ key:=.int .i64 p.1,val:=p.2.1,born:=p.2.2 }
def pK (k:Int):List (Int×Value×Nat)→Option Value
 |[]=>none
 |p::r=>if p.1=k then some p.2.1 else pK k r
def xO (k:Int) (v:Value) (c:Nat):List (Int×Value×Nat)→List (Int×Value×Nat)
 |[]=>[(k,v,c)]
 |p::r=>if p.1=k then (k,v,p.2.2)::r else p::xO k v c r
theorem Iq (k j:Int) (v:Value) (c:Nat):∀L,pK j (xO k v c L)=if j=k then some v else pK j L
 |[]=>by
  simp only[xO,pK];by_cases h:k=j
  ·subst h;simp
  ·rw[if_neg h,if_neg (fun e=>h e.symm)]
 |p::r=>by
  simp only[xO];by_cases h:p.1=k
  ·rw[if_pos h];simp only[pK];by_cases hj:j=k
   ·subst hj;simp
   ·rw[if_neg (fun e=>hj e.symm),if_neg hj,if_neg (fun e=>hj (e.symm.trans h))]
  ·rw[if_neg h];simp only[pK];rw[Iq k j v c r];by_cases hp:p.1=j
   ·rw[if_pos hp,if_pos hp,if_neg (fun e=>h (hp.trans e))]
   ·rw[if_neg hp,if_neg hp]
theorem xP {k:Int} : ∀ {L:List (Int×Value×Nat)} (i:Nat),pK k L=none→Instr.findNow (.int .i64) (.int .i64 k) (L.map NT) i=some none∧∀v c,xO k v c L=L++[(k,v,c)]
 |[],_,_=>⟨rfl,fun _ _=>rfl⟩
 |p::r,i,h=>by
  simp only[pK]at h;by_cases hp:p.1=k
  ·rw[if_pos hp]at h;cases h
  ·rw[if_neg hp]at h;obtain⟨h1,h2⟩:=xP (i+1) h;refine⟨?_,fun v c=>by simp only[xO];rw[if_neg hp,h2];rfl⟩;have hs:(k==p.1)=false:=by simp;exact fun e=>hp e.symm
   simp only[List.map_cons,Instr.findNow,Instr.sameNow,NT,if_true,hs];exact h1
theorem xQ {k:Int} {v:Value} : ∀ {L:List (Int×Value×Nat)} (i:Nat),pK k L=some v→∃j p,L[j]?=some p∧p.1=k∧p.2.1=v∧Instr.findNow (.int .i64) (.int .i64 k) (L.map NT) i=some (some (i+j,v))∧∀u c,xO k u c L=L.set j (k,u,p.2.2)
 |[],_,h=>by cases h
 |p::r,i,h=>by
  simp only[pK]at h;by_cases hp:p.1=k
  ·rw[if_pos hp]at h;have hv:p.2.1=v:=by simpa using h
   refine⟨0,p,rfl,hp,hv,?_,fun u c=>by simp only[xO];rw[if_pos hp];rfl⟩;have hs:(k==p.1)=true:=by simp[hp]
   simp only[List.map_cons,Instr.findNow,Instr.sameNow,NT,if_true,hs,hv,Nat.add_zero]
  ·rw[if_neg hp]at h;obtain⟨j,q,h1,h2,h3,h4,h5⟩:=xQ (i+1) h;refine⟨j+1,q,by simpa using h1,h2,h3,?_,fun u c=>by simp only[xO];rw[if_neg hp,h5];rfl⟩;have hs:(k==p.1)=false:=by simp;exact fun e=>hp e.symm
   simp only[List.map_cons,Instr.findNow,Instr.sameNow,NT,if_true,hs];rw[show i+(j+1)=i+1+j by omega];exact h4
def nI (w:World) (g:Nat) (f:Int→Option Value):Prop:=∃L clock,w.heap[g]?=some (.map (L.map NT).toArray clock)∧∀k,pK k L=f k
theorem nI.lt {w:World} {g:Nat} {f:Int→Option Value} (h:nI w g f):g<w.heap.size:=by
 obtain⟨L,c,h,_⟩:=h;exact (Array.getElem?_eq_some_iff.1 h).1
theorem nI.ext {w w':World} {g:Nat} {f:Int→Option Value} (h:nI w g f) (hx:Ext w w'):nI w' g f:=by
 have hl:=h.lt;obtain⟨L,c,h1,h2⟩:=h;exact⟨L,c,(hx.block g hl).trans h1,h2⟩
theorem nI.grown {w w':World} {g:Nat} {f:Int→Option Value} {row:Option Nat} (h:nI w g f) (hx:w.grownBy w' row) (hne:some g≠row):nI w' g f:=by
 have hl:=h.lt;obtain⟨L,c,h1,h2⟩:=h;exact⟨L,c,(hx.block g hl hne).trans h1,h2⟩
theorem nI.far {w:World} {g:Nat} {f:Int→Option Value} (h:nI w g f) {p:Addr} (hp:g≠p.block) (u:Value):nI (w.setCell p u) g f:=by
 obtain⟨L,c,h1,h2⟩:=h;exact⟨L,c,(Below.heap_setCell w p u g hp).trans h1,h2⟩
theorem nI.new (w:World):nI (w.alloc (.map #[] 0)) w.heap.size (fun _=>none):=⟨[],0,heap_alloc_new w _,fun _=>rfl⟩
theorem nI.congr {w:World} {g:Nat} {f f':Int→Option Value} (h:nI w g f) (hf:∀k,f k=f' k):nI w g f':=by
 obtain⟨L,c,h1,h2⟩:=h;exact⟨L,c,h1,fun k=>(h2 k).trans (hf k)⟩
def sF (w:World) (g:Nat) (L:List (Int×Value×Nat)) (c:Nat):World:={ w with heap:=w.heap.setIfInBounds g (.map (L.map NT).toArray c) }
theorem vY (w:World) (g:Nat) (L:List (Int×Value×Nat)) (c:Nat):w.grownBy (sF w g L c) (some g) :=
 ⟨rfl,rfl,rfl,by simp[sF],fun k _ hne=>by
  have:k≠g:=fun e=>hne (by rw[e]);simp[sF,Ne.symm this]⟩
section
variable {P:Program} {w:World} {g:Nat} {f:Int→Option Value} {t kt et:TypeId}
theorem nI.look (h:nI w g f) (ht:P.underlying t=some (.map kt et)) (hk:P.underlying kt=some (.int .i64)) {z:Value} (hz:(zeroValue et).run P w=.ok z w) (k:Int) :
  (Instr.lookup t (.map (some g)) (.int .i64 k) false).run P w=.ok ((f k).getD z) w:=by
 obtain⟨L,c,hb,hf⟩:=h;have hc:∀e,(Instr.checkKey e 10000 kt (.int .i64 k)).run P w=.ok () w:=fun e=>MapKept.run_checkKey (k:=.int .i64 k) hk (by simp[IsKey]) e 9999;have hfk:=hf k;cases hl:pK k L with
 |none =>
  obtain⟨h1,_⟩:=xP (k:=k) 0 hl;rw[hl]at hfk;rw[←hfk];simp[Instr.lookup,run_underlying ht,MapKept.run_getObj_map hb,hc,MapKept.run_findKey hk h1,Result.andThen,hz]
 |some v =>
  obtain⟨j,p,_,_,_,h1,_⟩:=xQ (k:=k) 0 hl;rw[hl]at hfk;rw[←hfk];simp[Instr.lookup,run_underlying ht,MapKept.run_getObj_map hb,hc,MapKept.run_findKey hk h1,Result.andThen]
theorem nI.update (h:nI w g f) (ht:P.underlying t=some (.map kt et)) (hk:P.underlying kt=some (.int .i64)) (k:Int) (v:Value) :
  ∃w',(Instr.mapUpdate t (.map (some g)) (.int .i64 k) v).run P w=.ok () w'∧nI w' g (fun j=>if j=k then some v else f j)∧w.grownBy w' (some g):=by
 have hlt:=h.lt;obtain⟨L,c,hb,hf⟩:=h;have hc:∀e,(Instr.checkKey e 10000 kt (.int .i64 k)).run P w=.ok () w:=fun e=>MapKept.run_checkKey (k:=.int .i64 k) hk (by simp[IsKey]) e 9999;have hnew:∀c c',nI (sF w g (xO k v c L) c') g (fun j=>if j=k then some v else f j):=fun c c'=>⟨xO k v c L,c',by simp[sF,hlt],fun j=>by rw[Iq,hf]⟩;cases hl:pK k L with
 |none =>
  obtain⟨h1,h2⟩:=xP (k:=k) 0 hl;refine⟨sF w g (xO k v c L) (c+1),?_,hnew _ _,vY _ _ _ _⟩;rw[h2];simp[Instr.mapUpdate,run_underlying ht,MapKept.run_getObj_map hb,hc,MapKept.run_findKey hk h1,MapKept.run_setObj_map _ hb,Result.andThen,sF,NT]
 |some u =>
  obtain⟨j,p,hj,hpk,_,h1,h2⟩:=xQ (k:=k) 0 hl;refine⟨sF w g (xO k v c L) c,?_,hnew _ _,vY _ _ _ _⟩;rw[h2];have hjl:j<L.length:=(List.getElem?_eq_some_iff.1 hj).1;have hjp:L[j]=p:=(List.getElem?_eq_some_iff.1 hj).2;have hst:(Instr.keyThatStays (.int .i64 p.1) (.int .i64 k)).run P w=.ok (.int .i64 k) w:=by simp[Instr.keyThatStays,Instr.sameBits,hpk]
  have hmod:(L.map NT).toArray.modify j (fun e=>{ e with key:=.int .i64 k,val:=v })=((L.set j (k,v,p.2.2)).map NT).toArray:=by
   refine Array.ext_getElem? fun i=>?_;rw[Array.getElem?_modify];simp only[List.getElem?_toArray,List.getElem?_map,List.getElem?_set];by_cases hji:j=i
   ·subst hji;simp[hjl,hjp,NT]
   ·simp[hji]
  have hkey:((((L.map NT).toArray[j]?).map (·.key)).getD (.int .i64 k))=.int .i64 p.1:=by simp[hj,NT]
  simp only[Nat.zero_add]at h1;have Ti:(Option.map (fun x=>x.key) (L.map NT).toArray[j]?).getD (.int .i64 k)=.int .i64 p.1:=hkey;simp only[Instr.mapUpdate,Sem.run_bind,run_underlying ht,Result.andThen_ok,MapKept.run_getObj_map hb,hc,MapKept.run_findKey hk h1,Ti,hst,MapKept.run_setObj_map _ hb,hmod];rfl
end
end Go.Proofs.YtjidhhfabfnhnaaGreat
namespace Go.Proofs.YtjidhhfabfnhnaaGreat
open Go.RowKit Go.MapKept
theorem W_ (e:Bool) (s:bP) (w:World):(Instr.checkKey e 10000 75 (.agg (ak s).toArray)).run Tryz.prog w=.ok () w:=by
 obtain⟨a,b,⟨c,d⟩,⟨f,g⟩⟩:=s;cases e<;>kernel_rfl
theorem eq_pas (a b:bP) (w:World):(Op.equal 75 (.agg (ak a).toArray) (.agg (ak b).toArray)).run Tryz.prog w=.ok (decide (a=b)) w:=by
 have u3:=Tryz.underlying3;have hS:Tryz.prog.underlying 75=some (.struct (Tryz.prog.fieldsOf 75)):=by kernel_rfl
 have hp:Tryz.prog.stoodInHeld 75=false:=by kernel_rfl
 rw[Op.equal,Op.maxDepth,show (10000:Nat)=9999+1 from rfl,run_equalIn_agg w 9999 75 _ _ hS hp];have e2:=zY;clear hS hp;obtain⟨a1,a2,⟨a3,a4⟩,⟨a5,a6⟩⟩:=a;obtain⟨b1,b2,⟨b3,b4⟩,⟨b5,b6⟩⟩:=b;simp only[Program.fieldsOf,Tryz.underlying75,ak];go_simp
 by_cases h0:a1=b1<;>by_cases h1:a2=b2<;>by_cases h2:a3=b3<;>by_cases h3:a4=b4<;>by_cases h4:a5=b5<;>by_cases h5:a6=b6<;>simp[h0,h1,h2,h3,h4,h5]
structure OZ (kt:TypeId) (κ:Type) [DecidableEq κ] (cells:κ→List Value):Prop where
 chk:∀e k w,(Instr.checkKey e 10000 kt (.agg (cells k).toArray)).run Tryz.prog w=.ok () w
 eq:∀s t w,(Op.equal kt (.agg (cells s).toArray) (.agg (cells t).toArray)).run Tryz.prog w=.ok (decide (s=t)) w
 desc:∃fs,Tryz.prog.underlying kt=some (.struct fs)
 bits:∀k,Instr.sameBits 10000 (.agg (cells k).toArray) (.agg (cells k).toArray)=true
theorem NU:OZ 75 bP ak:=⟨W_,eq_pas,⟨_,Tryz.underlying75⟩,fun k=>by obtain⟨a,b,⟨c,d⟩,⟨e,f⟩⟩:=k;simp[Instr.sameBits,ak]⟩
section
variable {κ:Type} [DecidableEq κ] {cells:κ→List Value} {kt:TypeId}
def uT (cells:κ→List Value) (p:κ×Value×Nat):MapEntry:={ key:=.agg (cells p.1).toArray,val:=p.2.1,born:=p.2.2 }
def pO (k:κ):List (κ×Value×Nat)→Option Value
 |[]=>none
 |p::r=>if p.1=k then some p.2.1 else pO k r
def xR (k:κ) (v:Value) (c:Nat):List (κ×Value×Nat)→List (κ×Value×Nat)
 |[]=>[(k,v,c)]
 |p::r=>if p.1=k then (k,v,p.2.2)::r else p::xR k v c r
theorem DZ (k j:κ) (v:Value) (c:Nat):∀L,pO j (xR k v c L)=if j=k then some v else pO j L
 |[]=>by
  simp only[xR,pO];by_cases h:k=j
  ·subst h;simp
  ·rw[if_neg h,if_neg (fun e=>h e.symm)]
 |p::r=>by
  simp only[xR];by_cases h:p.1=k
  ·rw[if_pos h];simp only[pO];by_cases hj:j=k
   ·subst hj;simp
   ·rw[if_neg (fun e=>hj e.symm),if_neg hj,if_neg (fun e=>hj (e.symm.trans h))]
  ·rw[if_neg h];simp only[pO];rw[DZ k j v c r];by_cases hp:p.1=j
   ·rw[if_pos hp,if_pos hp,if_neg (fun e=>h (hp.trans e))]
   ·rw[if_neg hp,if_neg hp]
theorem xU (K:OZ kt κ cells) {k:κ} (w:World):∀ {L:List (κ×Value×Nat)} (i:Nat),pO k L=none→(Instr.findAsking kt (.agg (cells k).toArray) (L.map (uT cells)) i).run Tryz.prog w=.ok none w∧∀v c,xR k v c L=L++[(k,v,c)]
 |[],_,_=>⟨by simp[Instr.findAsking],fun _ _=>rfl⟩
 |p::r,i,h=>by
  simp only[pO]at h;by_cases hp:p.1=k
  ·rw[if_pos hp]at h;cases h
  ·rw[if_neg hp]at h;obtain⟨h1,h2⟩:=xU K w (i+1) h;refine⟨?_,fun v c=>by simp only[xR];rw[if_neg hp,h2];rfl⟩;have hs:decide (k=p.1)=false:=decide_eq_false (fun e=>hp e.symm);rw[List.map_cons,Instr.findAsking];simp only[Sem.run_bind,uT,K.eq,hs,Result.andThen_ok,Bool.false_eq_true,if_false];exact h1
theorem xW (K:OZ kt κ cells) {k:κ} {v:Value} (w:World):∀ {L:List (κ×Value×Nat)} (i:Nat),pO k L=some v→∃j p,L[j]?=some p∧p.1=k∧p.2.1=v∧(Instr.findAsking kt (.agg (cells k).toArray) (L.map (uT cells)) i).run Tryz.prog w=.ok (some (i+j,v)) w∧∀u c,xR k u c L=L.set j (k,u,p.2.2)
 |[],_,h=>by cases h
 |p::r,i,h=>by
  simp only[pO]at h;by_cases hp:p.1=k
  ·rw[if_pos hp]at h;have hv:p.2.1=v:=by simpa using h
   refine⟨0,p,rfl,hp,hv,?_,fun u c=>by simp only[xR];rw[if_pos hp];rfl⟩;rw[List.map_cons,Instr.findAsking];simp only[Sem.run_bind,uT,K.eq,hp,decide_true,Result.andThen_ok,if_true,hv,Nat.add_zero,Sem.run_pure]
  ·rw[if_neg hp]at h;obtain⟨j,q,h1,h2,h3,h4,h5⟩:=xW K w (i+1) h;refine⟨j+1,q,by simpa using h1,h2,h3,?_,fun u c=>by simp only[xR];rw[if_neg hp,h5];rfl⟩;have hs:decide (k=p.1)=false:=decide_eq_false (fun e=>hp e.symm);rw[List.map_cons,Instr.findAsking];simp only[Sem.run_bind,uT,K.eq,hs,Result.andThen_ok,Bool.false_eq_true,if_false];rw[show i+(j+1)=i+1+j by omega];exact h4
theorem NV (K:OZ kt κ cells) {k:κ} (w:World) (L:List (κ×Value×Nat)):(Instr.findKey kt (.agg (cells k).toArray) (L.map (uT cells))).run Tryz.prog w=(Instr.findAsking kt (.agg (cells k).toArray) (L.map (uT cells)) 0).run Tryz.prog w:=by
 obtain⟨fs,hd⟩:=K.desc;rw[Instr.findKey];simp only[Sem.run_bind,run_underlying hd,Result.andThen_ok];cases L with
 |nil=>simp[Instr.findNow,Instr.findAsking]
 |cons p r=>simp[Instr.findNow,Instr.sameNow]
def kU (cells:κ→List Value) (w:World) (g:Nat) (f:κ→Option Value):Prop:=∃L clock,w.heap[g]?=some (.map (L.map (uT cells)).toArray clock)∧∀k,pO k L=f k
theorem kU.lt {w:World} {g:Nat} {f:κ→Option Value} (h:kU cells w g f):g<w.heap.size:=by
 obtain⟨L,c,h,_⟩:=h;exact (Array.getElem?_eq_some_iff.1 h).1
theorem kU.keep {w w':World} {g:Nat} {f:κ→Option Value} (h:kU cells w g f) (hk:w'.heap[g]?=w.heap[g]?):kU cells w' g f:=by
 obtain⟨L,c,h1,h2⟩:=h;exact⟨L,c,hk.trans h1,h2⟩
theorem kU.ext {w w':World} {g:Nat} {f:κ→Option Value} (h:kU cells w g f) (hx:Ext w w'):kU cells w' g f:=h.keep (hx.block g h.lt)
theorem kU.new (w:World):kU cells (w.alloc (.map #[] 0)) w.heap.size (fun _=>none):=⟨[],0,heap_alloc_new w _,fun _=>rfl⟩
theorem kU.congr {w:World} {g:Nat} {f f':κ→Option Value} (h:kU cells w g f) (hf:∀k,f k=f' k):kU cells w g f':=by
 obtain⟨L,c,h1,h2⟩:=h;exact⟨L,c,h1,fun k=>(h2 k).trans (hf k)⟩
def oq (cells:κ→List Value) (w:World) (g:Nat) (L:List (κ×Value×Nat)) (c:Nat):World:={ w with heap:=w.heap.setIfInBounds g (.map (L.map (uT cells)).toArray c) }
omit [DecidableEq κ] in
theorem uI (w:World) (g:Nat) (L:List (κ×Value×Nat)) (c:Nat):w.grownBy (oq cells w g L c) (some g) :=
 ⟨rfl,rfl,rfl,by simp[oq],fun k _ hne=>by
  have:k≠g:=fun e=>hne (by rw[e]);simp[oq,Ne.symm this]⟩
variable {w:World} {g:Nat} {f:κ→Option Value} {t et:TypeId}
theorem kU.look (K:OZ kt κ cells) (h:kU cells w g f) (ht:Tryz.prog.underlying t=some (.map kt et)) {z:Value} (hz:(zeroValue et).run Tryz.prog w=.ok z w) (k:κ) (X:Array Value) (hX:X=(cells k).toArray) (ok:Bool) :
  (Instr.lookup t (.map (some g)) (.agg X) ok).run Tryz.prog w=.ok (if ok then .tuple #[(f k).getD z,.bool (f k).isSome] else (f k).getD z) w:=by
 subst hX;obtain⟨L,c,hb,hf⟩:=h;have hfk:=hf k;cases hl:pO k L with
 |none =>
  obtain⟨h1,_⟩:=xU K w 0 hl;rw[hl]at hfk;rw[←hfk];have h2:=(NV K w L).trans h1;cases ok<;>simp[Instr.lookup,run_underlying ht,MapKept.run_getObj_map hb,K.chk,h2,Result.andThen,hz]
 |some v =>
  obtain⟨j,p,_,_,_,h1,_⟩:=xW K w 0 hl;rw[hl]at hfk;rw[←hfk];have h2:=(NV K w L).trans h1;cases ok<;>simp[Instr.lookup,run_underlying ht,MapKept.run_getObj_map hb,K.chk,h2,Result.andThen]
theorem kU.update (K:OZ kt κ cells) (h:kU cells w g f) (ht:Tryz.prog.underlying t=some (.map kt et)) (k:κ) (X:Array Value) (hX:X=(cells k).toArray) (v:Value) :
  ∃w',(Instr.mapUpdate t (.map (some g)) (.agg X) v).run Tryz.prog w=.ok () w'∧kU cells w' g (fun j=>if j=k then some v else f j)∧w.grownBy w' (some g):=by
 subst hX;have hlt:=h.lt;obtain⟨L,c,hb,hf⟩:=h;have hnew:∀c c',kU cells (oq cells w g (xR k v c L) c') g (fun j=>if j=k then some v else f j):=fun c c'=>⟨xR k v c L,c',by simp[oq,hlt],fun j=>by rw[DZ,hf]⟩;cases hl:pO k L with
 |none =>
  obtain⟨h1,h2⟩:=xU K w 0 hl;have h3:=(NV K w L).trans h1;refine⟨oq cells w g (xR k v c L) (c+1),?_,hnew _ _,uI _ _ _ _⟩;rw[h2];simp[Instr.mapUpdate,run_underlying ht,MapKept.run_getObj_map hb,K.chk,h3,MapKept.run_setObj_map _ hb,Result.andThen,oq,uT]
 |some u =>
  obtain⟨j,p,hj,hpk,_,h1,h2⟩:=xW K w 0 hl;have h3:=(NV K w L).trans h1;refine⟨oq cells w g (xR k v c L) c,?_,hnew _ _,uI _ _ _ _⟩;rw[h2];have hjl:j<L.length:=(List.getElem?_eq_some_iff.1 hj).1;have hjp:L[j]=p:=(List.getElem?_eq_some_iff.1 hj).2;have hst:(Instr.keyThatStays (.agg (cells p.1).toArray) (.agg (cells k).toArray)).run Tryz.prog w=.ok (.agg (cells k).toArray) w:=by rw[hpk];simp[Instr.keyThatStays,K.bits]
  have hmod:(L.map (uT cells)).toArray.modify j (fun e=>{ e with key:=.agg (cells k).toArray,val:=v })=((L.set j (k,v,p.2.2)).map (uT cells)).toArray:=by
   refine Array.ext_getElem? fun i=>?_;rw[Array.getElem?_modify];simp only[List.getElem?_toArray,List.getElem?_map,List.getElem?_set];by_cases hji:j=i
   ·subst hji;simp[hjl,hjp,uT]
   ·simp[hji]
  simp only[Nat.zero_add]at h3;have Ti:(Option.map (fun x=>x.key) (L.map (uT cells)).toArray[j]?).getD (.agg (cells k).toArray)=.agg (cells p.1).toArray:=by simp[hj,uT]
  simp only[Instr.mapUpdate,Sem.run_bind,run_underlying ht,Result.andThen_ok,MapKept.run_getObj_map hb,K.chk,h3,Ti,hst,MapKept.run_setObj_map _ hb,hmod];rfl
end
end Go.Proofs.YtjidhhfabfnhnaaGreat
