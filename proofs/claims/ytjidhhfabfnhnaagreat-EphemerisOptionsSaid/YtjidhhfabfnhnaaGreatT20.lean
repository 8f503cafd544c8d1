/- Two strips together (printed by eph_v22.py). -/
import Derived.Test.YtjidhhfabfnhnaaGreatT19
import Derived.Test.YtjidhhfabfnhnaaGreatT01
namespace Go.Proofs.YtjidhhfabfnhnaaGreat
open Go.RowKit Go.Shelf
attribute [local go_sem] Oper.semAt_some
theorem eG (W:World) (p:Addr) (u:Value):W.grownBy (W.setCell p u) (some p.block):=⟨rfl,rfl,rfl,by simp,fun k _ hne=>Below.heap_setCell W p u k (fun e=>hne (by rw[e]))⟩
structure AI (w:World) (g8 g9 gr B0:Nat) (pre:List Lp) (W:World):Prop where
 k8:aG W g8 58 #[.slice none 0 0]
 k9:aG W g9 58 #[.slice (some ⟨gr,0,none⟩) 24 24]
 kr:aG W gr 3 (intRow ((pre.map (·.1)).foldl Lr (List.replicate 24 0)))
 below:Ext w W
 size:B0≤W.heap.size
theorem ai_own {w:World} {g8 g9 gr B0:Nat} (h:w.heap.size≤B0):OwnFrom B0 (AI w g8 g9 gr B0):=by
 rintro pre X Y row ⟨k8,k9,kr,hb,hz⟩ hgr hr;exact⟨bF k8 hgr hr,bF k9 hgr hr,bF kr hgr hr,hb.grown hgr hb.size (fun k e=>Nat.le_trans h (hr k e).1),Nat.le_trans hz hgr.size⟩
theorem Ls (R:List Int) (k:Nat) (z:Int):(intRow R).setIfInBounds k (.int .i64 z)=intRow (R.set k z):=by simp[intRow,List.map_set]
theorem Bj (R:List Int) (k:Nat) (h:k<R.length):(intRow R)[k]?=some (.int .i64 (R.getD k 0)):=by simp[intRow,h]
set_option maxRecDepth 100000 in
set_option maxHeartbeats 2000000 in
theorem Xj (p f lo hi no tu sl a b look la:Int) (hv:qP ⟨p,f,lo,hi,no,tu,sl⟩ a b look=true) (hla : -10≤la∧la≤10) (w:World) :
  CallsIn Fence.wide 10 Tryz.prog 56 #[.agg #[.int .i64 p,.int .i64 f,.int .i64 lo,.int .i64 hi,.int .i64 no,.int .i64 tu,.int .i64 sl],.agg #[.int .i64 a,.int .i64 b],.int .i64 look,.int .i64 la] w fun e w'=>∃gr,e=.returned (.agg #[.slice (some ⟨gr,0,none⟩) 24 24])∧w.heap.size≤gr∧aG w' gr 3 (intRow (wu ⟨p,f,lo,hi,no,tu,sl⟩ look la a b))∧Ext w w':=by
 refine callsIn_of_wp_marks Tryz.func56 rfl trivial ?_ rfl;simp only[Tryz.ntmps56,List.size_toArray,List.length_cons,List.length_nil,Nat.reduceAdd,Nat.reduceSub,Array.replicate_succ,Array.replicate_zero,List.push_toArray,List.append_toArray,List.nil_append,List.cons_append];have HV:=Lib.hid hv;have jv:=Lib.hid hla;clear hv hla;refine wpIn_wide.2 ?_;go_upto_region 1 with (fail);generalize hW0:(((w.alloc (.cells #[.int .i64 p,.int .i64 f,.int .i64 lo,.int .i64 hi,.int .i64 no,.int .i64 tu,.int .i64 sl] 51)).alloc (.cells #[.int .i64 a,.int .i64 b] 32)).alloc (.cells #[.slice none 0 0] 58))=W0;obtain⟨g4,hg4⟩:∃k,k=w.heap.size:=⟨_,rfl⟩;obtain⟨g5,hg5⟩:∃k,k=w.heap.size+1:=⟨_,rfl⟩;obtain⟨g8,hg8⟩:∃k,k=w.heap.size+1+1:=⟨_,rfl⟩;have K4:aG W0 g4 51 #[.int .i64 p,.int .i64 f,.int .i64 lo,.int .i64 hi,.int .i64 no,.int .i64 tu,.int .i64 sl]:=by subst hW0;exact (((aG.bC _ _ _ (by simp[hg4])).alloc _).alloc _)
 have K5:aG W0 g5 32 #[.int .i64 a,.int .i64 b]:=by subst hW0;exact (aG.bC _ _ _ (by simp[hg5])).alloc _
 have K8:aG W0 g8 58 #[.slice none 0 0]:=by subst hW0;exact aG.bC _ _ _ (by simp[hg8])
 have hB:Ext w W0:=by subst hW0;exact aj (aj (aj (Below.refl _ _) _) _) _
 rw[←hg8,←hg5,←hg4];have RV:Hid (w.heap.size≤g8):=Lib.hid (by omega);clear hW0 hg4 hg5 hg8;go_wp2_with fail;refine (empty_any _).mono ?_;rintro e W1 ⟨gr,rfl,hgr,kr,hy⟩;have K4:=K4.ext hy;have K5:=K5.ext hy;have K8:=K8.ext hy;have hgw:w.heap.size≤gr:=Nat.le_trans hB.size hgr;have hB:=Ext.trans hB hy;have hx2:Ext W1 (W1.alloc (.cells #[.slice (some ⟨gr,0,none⟩) 24 24] 58)):=aj (Below.refl _ _) _;have K9:=aG.new W1 58 #[.slice (some ⟨gr,0,none⟩) 24 24];go_upto_region 2 with (fail);obtain⟨g9,hg9⟩:∃k,k=W1.heap.size:=⟨_,rfl⟩;rw[←hg9]at K9⊢;generalize W1.alloc (.cells #[.slice (some ⟨gr,0,none⟩) 24 24] 58)=W2 at K9 hx2⊢;have K4:=K4.ext hx2;have K5:=K5.ext hx2;have K8:=K8.ext hx2;have kr:=kr.ext hx2;have hB:=Ext.trans hB hx2;have o0:W2.cell? ⟨g4,0,none⟩=some (.int .i64 p):=K4.cell 0;have o1:W2.cell? ⟨g4,1,none⟩=some (.int .i64 f):=K4.cell 1;have o2:W2.cell? ⟨g4,2,none⟩=some (.int .i64 lo):=K4.cell 2;have o3:W2.cell? ⟨g4,3,none⟩=some (.int .i64 hi):=K4.cell 3;have o4:W2.cell? ⟨g4,4,none⟩=some (.int .i64 no):=K4.cell 4;have o5:W2.cell? ⟨g4,5,none⟩=some (.int .i64 tu):=K4.cell 5;have o6:W2.cell? ⟨g4,6,none⟩=some (.int .i64 sl):=K4.cell 6;have s0:W2.cell? ⟨g5,0,none⟩=some (.int .i64 a):=K5.cell 0;have s1:W2.cell? ⟨g5,1,none⟩=some (.int .i64 b):=K5.cell 1;clear hy hx2 hg9 hgr K4 K5;go_wp2_with fail;refine (Tq _ _ look la _).mono ?_;rintro e W3 ⟨rfl,hW3⟩;have hy:Ext W2 W3:=by subst hW3;exact aj (aj (aj (aj (Below.refl _ _) _) _) _) _
 have ko:aG W3 W2.heap.size 51 #[.int .i64 p,.int .i64 f,.int .i64 lo,.int .i64 hi,.int .i64 no,.int .i64 tu,.int .i64 sl]:=by subst hW3;exact (((aG.new _ _ _).alloc _).alloc _).alloc _
 have ks:aG W3 (W2.heap.size+1) 32 #[.int .i64 a,.int .i64 b]:=by subst hW3;exact ((aG.bC _ _ _ (by simp)).alloc _).alloc _
 have kk:aG W3 (W2.heap.size+1+1) 3 #[.int .i64 look]:=by subst hW3;exact (aG.bC _ _ _ (by simp)).alloc _
 have kl:aG W3 (W2.heap.size+1+1+1) 3 #[.int .i64 la]:=by subst hW3;exact aG.bC _ _ _ (by simp)
 have hgl:=kr.lt;have K8:=K8.ext hy;have K9:=K9.ext hy;have kr:=kr.ext hy;have hB:=Ext.trans hB hy;have hws:w.heap.size≤W3.heap.size:=hB.size;have hI0:AI w g8 g9 gr W3.heap.size [] W3:=⟨K8,K9,kr,hB,Nat.le_refl _⟩;have HGW:=Lib.hid hgw;clear o0 o1 o2 o3 o4 o5 o6 s0 s1 hW3 hy K8 K9 kr hB hgw;go_wp2_with fail;refine wpIn_wide.1 (FT (fun q=>q=gr) w.heap.size (W2.heap.size+1) W2.heap.size (W2.heap.size+1+1+1) (W2.heap.size+1+1) p f lo hi no tu sl a b look la 10 (by omega) hws ks ko kl kk (by omega) (by omega) (by omega) (by omega) HV.out jv.out rfl (AI w g8 g9 gr W3.heap.size) (ai_own hws) (fun _ _ h=>h.size) hI0
  (fun t x Bx=>(t.setIfInBounds 17 (.agg (lD x.1).toArray)).setIfInBounds 10 (.pointer (some ⟨Bx,0,none⟩))) ?hassign ?hbody ?hdone)
 case hassign =>
  intro ly s W K hK;obtain⟨⟨x,y,t⟩,hbd⟩:=s;dsimp only[lD]at hK⊢;simp only[List.setIfInBounds_toArray,List.set_cons_zero,List.set_cons_succ]at hK ⊢
  gi_wp2
  exact hK
 case hbody =>
  intro ly pre s Bx W hI hBx KX;obtain⟨⟨x,y,t⟩,hbd⟩:=s;have hbd2:0≤x∧x≤47∧0≤y∧y≤23:=hbd;obtain⟨b1,b2,b3,b4⟩:=hbd2;dsimp only[lD]at KX⊢;simp only[List.setIfInBounds_toArray,List.set_cons_zero,List.set_cons_succ];obtain⟨yn,rfl⟩:∃yn:Nat,y=yn:=⟨y.toNat,by omega⟩;obtain⟨k8,k9,kr,hbl,hsz⟩:=hI;obtain⟨R,hR⟩:∃R,R=(pre.map (·.1)).foldl Lr (List.replicate 24 0):=⟨_,rfl⟩;rw[←hR]at kr;have hRl:R.length=24:=by rw[hR,D7];rfl
  have hnew:((pre++[(⟨(x,(yn:Int),t),hbd⟩:Lp)]).map (·.1)).foldl Lr (List.replicate 24 0)=R.set yn (kG (R.getD yn 0) (xX x)):=by
   rw[List.map_append,List.foldl_append,←hR];rfl
  obtain⟨z,hz⟩:∃z,z=R.getD yn 0:=⟨_,rfl⟩;rw[←hz]at hnew;have u9:W.cell? ⟨g9,0,none⟩=some (.slice (some ⟨gr,0,none⟩) 24 24):=k9.cell 0;have x0:W.cell? ⟨Bx,0,none⟩=some (.int .i64 x):=KX.cell 0;have x1:W.cell? ⟨Bx,1,none⟩=some (.int .i64 yn):=KX.cell 1;have r0:W.cell? ⟨gr,yn,none⟩=some (.int .i64 z):=by rw[kr.cell,Bj R yn (by omega),←hz]
  have hor:=Tt z (xX x);have ql:=Lib.hid hnew;clear hnew hR hz
  gi_wp2_with fail
  refine nV 13 (fun ix vals v w1=>match ix with | 0=>v=.pointer (some ⟨g9,0,none⟩) | 1=>v=.slice (some ⟨gr,0,none⟩) 24 24 | 2=>v=.pointer (some ⟨Bx,0,none⟩) | 3=>v=.pointer (some ⟨Bx,1,none⟩) | 4=>v=.int .i64 yn | 5=>v=.pointer (some ⟨gr,yn,none⟩) | 6=>v=.int .i64 z | 7=>v=.pointer (some ⟨Bx,0,none⟩) | 8=>v=.pointer (some ⟨Bx,0,none⟩) | 9=>v=.int .i64 x | 10=>v=.int .i64 (xX x) | 11=>v=.int .i64 (kG z (xX x)) | _=>v=.pointer (some ⟨gr,yn,none⟩)) (by kernel_rfl) (by kernel_rfl) (by kernel_rfl) ?_ ?_ ?_ ?_
  ·intro ix vals v w1 w2 hi hr hx;exact hr
  ·intro ix vals vJ v w1 hi hv hr;exact hr
  ·refine⟨?_,?_,?_,?_,?_,?_,?_,?_,?_,?_,?_,?_,?_,trivial⟩
   ·intro vals w1 hx hd ha;clear hd ha;simp only[Lf];go_wp2;exact q_
   ·intro vals w1 hx hd ha;have e0:vals 0=.pointer (some ⟨g9,0,none⟩):=hd 0 (by decide);clear hd ha;simp only[Lf,au,Act.put,FR_,e0];clear e0;have u9:=ah hx u9;go_wp2;exact q_
   ·intro vals w1 hx hd ha;clear hd ha;simp only[Lf,au,Act.put,FR_];go_wp2;exact q_
   ·intro vals w1 hx hd ha;have e2:vals 2=.pointer (some ⟨Bx,0,none⟩):=hd 2 (by decide);clear hd ha;simp only[Lf,au,Act.put,FR_,e2];clear e2;go_wp2;exact q_
   ·intro vals w1 hx hd ha;have e3:vals 3=.pointer (some ⟨Bx,1,none⟩):=hd 3 (by decide);clear hd ha;simp only[Lf,au,Act.put,FR_,e3];clear e3;have x1:=ah hx x1;go_wp2;exact q_
   ·intro vals w1 hx hd ha;have e1:vals 1=.slice (some ⟨gr,0,none⟩) 24 24:=hd 1 (by decide);have e4:vals 4=.int .i64 yn:=hd 4 (by decide);clear hd ha;simp only[Lf,au,Act.put,FR_,e1,e4];clear e1 e4;go_wp2;exact q_
   ·intro vals w1 hx hd ha;have e5:vals 5=.pointer (some ⟨gr,yn,none⟩):=hd 5 (by decide);clear hd ha;simp only[Lf,au,Act.put,FR_,e5];clear e5;have r0:=ah hx r0;go_wp2;exact q_
   ·intro vals w1 hx hd ha;clear hd ha;simp only[Lf,au,Act.put,FR_];go_wp2;exact q_
   ·intro vals w1 hx hd ha;have e7:vals 7=.pointer (some ⟨Bx,0,none⟩):=hd 7 (by decide);clear hd ha;simp only[Lf,au,Act.put,FR_,e7];clear e7;go_wp2;exact q_
   ·intro vals w1 hx hd ha;have e8:vals 8=.pointer (some ⟨Bx,0,none⟩):=hd 8 (by decide);clear hd ha;simp only[Lf,au,Act.put,FR_,e8];clear e8;have x0:=ah hx x0;go_wp2;exact q_
   ·intro vals w1 hx hd ha;have e9:vals 9=.int .i64 x:=hd 9 (by decide);clear hd ha;simp only[Lf,au,Act.put,FR_,e9];clear e9;go_wp2;exact q_
   ·intro vals w1 hx hd ha;have e6:vals 6=.int .i64 z:=hd 6 (by decide);have e10:vals 10=.int .i64 (xX x):=hd 10 (by decide);clear hd ha;simp only[Lf,au,Act.put,FR_,e6,e10];clear e6 e10;go_wp2;exact q_
   ·intro vals w1 hx hd ha;have e0:vals 0=.pointer (some ⟨g9,0,none⟩):=hd 0 (by decide);have e1:vals 1=.slice (some ⟨gr,0,none⟩) 24 24:=hd 1 (by decide);have e2:vals 2=.pointer (some ⟨Bx,0,none⟩):=hd 2 (by decide);have e3:vals 3=.pointer (some ⟨Bx,1,none⟩):=hd 3 (by decide);have e4:vals 4=.int .i64 yn:=hd 4 (by decide);have e5:vals 5=.pointer (some ⟨gr,yn,none⟩):=hd 5 (by decide);have e6:vals 6=.int .i64 z:=hd 6 (by decide);have e7:vals 7=.pointer (some ⟨Bx,0,none⟩):=hd 7 (by decide);have e8:vals 8=.pointer (some ⟨Bx,0,none⟩):=hd 8 (by decide);have e9:vals 9=.int .i64 x:=hd 9 (by decide);have e10:vals 10=.int .i64 (xX x):=hd 10 (by decide);have e11:vals 11=.int .i64 (kG z (xX x)):=hd 11 (by decide);clear hd ha;simp only[Lf,au,Act.put,FR_,e0,e1,e2,e3,e4,e5,e6,e7,e8,e9,e10,e11];clear e0 e1 e2 e3 e4 e5 e6 e7 e8 e9 e10 e11;go_wp2;exact q_
  intro vals w5 hx5 hf;have e11:vals 11=.int .i64 (kG z (xX x)):=hf 11 (by omega);have e12:vals 12=.pointer (some ⟨gr,yn,none⟩):=hf 12 (by omega);clear hf u9 x0 x1 r0 hor;have hx5:=hx5.aH;have OY:w.heap.size≤W.heap.size:=hbl.size;have kr5:=kr.ext hx5;have hgr9:g9≠gr:=k9.Cc kr (by decide);have hgr8:g8≠gr:=k8.Cc kr (by decide);have HGR:Hid (W3.heap.size≤gr∨gr<W3.heap.size):=Lib.hid (by omega);have HK:Hid (KeepsOthers W (w5.setCell ⟨gr,yn,none⟩ (.int .i64 (kG z (xX x))))):=Lib.hid ((A_ hx5).trans (KeepsOthers.setCell _ _ _));have HP:Hid (iW (fun q=>q=gr) w.heap.size W3.heap.size W (w5.setCell ⟨gr,yn,none⟩ (.int .i64 (kG z (xX x))))):=Lib.hid ((iW.ext hx5 hws hsz).trans (iW.step (eG w5 ⟨gr,yn,none⟩ _) hws (Nat.le_trans hsz hx5.size) (fun r e=>by cases e;exact .inl ⟨rfl,HGW.out⟩)));have HI:Hid (AI w g8 g9 gr W3.heap.size (pre++[(⟨(x,(yn:Int),t),hbd⟩:Lp)]) (w5.setCell ⟨gr,yn,none⟩ (.int .i64 (kG z (xX x))))):=by
   refine Lib.hid ⟨(k8.ext hx5).far (p:=⟨gr,yn,none⟩) hgr8 _,(k9.ext hx5).far (p:=⟨gr,yn,none⟩) hgr9 _,?_,(Ext.trans hbl hx5).setCell (p:=⟨gr,yn,none⟩) HGW.out _,Nat.le_trans hsz HK.out.size⟩;have h:=kr5.cZ yn (.int .i64 (kG z (xX x)));rw[Ls]at h;rw[ql.out];exact h
  have f5:w5.frozen? ⟨gr,yn,none⟩=false:=kr5.frozen yn;have c5:∃u,w5.cell? ⟨gr,yn,none⟩=some u:=⟨.int .i64 (R.getD yn 0),by rw[kr5.cell,Bj R yn (by omega)]⟩;obtain⟨u5,c5⟩:=c5;clear k8 k9 kr hbl hsz OY kr5 hgr9 hgr8 hx5 KX;refine eP 13 _ (by kernel_rfl) (by kernel_rfl) rfl ?_;simp only[Lf,au,Act.put,FR_];rw[e11,e12];clear e11 e12;go_wp2;refine Dq ?_;exact⟨HK.out.from _,HP.out,HI.out⟩
 case hdone =>
  intro D xs W hD hxs hI hK;obtain⟨k8,k9,kr,hbl,hsz⟩:=hI;rw[hxs]at kr;have KR:aG W gr 3 (intRow (wu ⟨p,f,lo,hi,no,tu,sl⟩ look la a b)):=kr;have u9:W.cell? ⟨g9,0,none⟩=some (.slice (some ⟨gr,0,none⟩) 24 24):=k9.cell 0;have u8:W.cell? ⟨g8,0,none⟩=some (.slice none 0 0):=k8.cell 0;have f8:W.frozen? ⟨g8,0,none⟩=false:=k8.frozen 0;have hne:gr≠g8:=kr.Cc k8 (by decide);have k8s:=k8.cZ 0 (.slice (some ⟨gr,0,none⟩) 24 24);have krs:=KR.far (p:=⟨g8,0,none⟩) hne (.slice (some ⟨gr,0,none⟩) 24 24);have hbs:=hbl.setCell (p:=⟨g8,0,none⟩) RV.out (.slice (some ⟨gr,0,none⟩) 24 24);have hKs:(W.setCell ⟨g8,0,none⟩ (.slice (some ⟨gr,0,none⟩) 24 24)).heap[D]?=some (.deferred (some [])):=(KeepsOthers.setCell W ⟨g8,0,none⟩ (.slice (some ⟨gr,0,none⟩) 24 24)).same D _ hK rfl;have HA:=Lib.hid k8s;have HR:=Lib.hid krs;have HB:=Lib.hid hbs;have HK:=Lib.hid hKs;clear hI0 ks ko kl kk k8 k9 kr KR hbl hsz k8s krs hbs hKs hK hne hxs;go_wp2;refine⟨by simp,.inl ⟨_,_,rfl,run_takeDeferred HK.out,?_⟩⟩;have hgr:=grownBy_putObj' (W.setCell ⟨g8,0,none⟩ (.slice (some ⟨gr,0,none⟩) 24 24)) D (.deferred none);have hrr:∀r,some D=some r→w.heap.size≤r∧∃o:Obj,(W.setCell ⟨g8,0,none⟩ (.slice (some ⟨gr,0,none⟩) 24 24)).heap[r]?=some o∧o.isCells=false:=fun r e=>by cases e;exact⟨by omega,_,HK.out,rfl⟩
  have HA2:=bF HA.out hgr hrr;have HR2:=bF HR.out hgr hrr;exact⟨.agg #[.slice (some ⟨gr,0,none⟩) 24 24],gG Tryz.results56 _ _ g8 _ rfl HA2 _ Tryz.underlying58 rfl D6,gr,rfl,HGW.out,HR2,HB.out.grown hgr HB.out.size (fun k e=>by cases e;omega)⟩
theorem O5 (p f lo hi no tu sl a b look la:Int) (hv:qP ⟨p,f,lo,hi,no,tu,sl⟩ a b look=true) (hla : -10≤la∧la≤10) (w:World) :
  Calls Tryz.prog 56 #[.agg #[.int .i64 p,.int .i64 f,.int .i64 lo,.int .i64 hi,.int .i64 no,.int .i64 tu,.int .i64 sl],.agg #[.int .i64 a,.int .i64 b],.int .i64 look,.int .i64 la] w fun e w'=>∃gr,e=.returned (.agg #[.slice (some ⟨gr,0,none⟩) 24 24])∧w.heap.size≤gr∧aG w' gr 3 (intRow (wu ⟨p,f,lo,hi,no,tu,sl⟩ look la a b))∧Ext w w' :=
 callsIn_wide.1 (Xj p f lo hi no tu sl a b look la hv hla w)
end Go.Proofs.YtjidhhfabfnhnaaGreat
namespace Go.Proofs.YtjidhhfabfnhnaaGreat
open Go.RowKit Go.Shelf
attribute [local go_sem] Oper.semAt_some
def bW (x:Int):List Value:=[.int .i64 x]
theorem kW (x:Int):(bW x).length=1:=rfl
theorem qG (l:List Int):l.flatMap bW=(intRow l).toList:=by
 unfold intRow bW
 induction l with
 |nil=>rfl
 |cons x r ih=>rw[List.flatMap_cons,ih];simp
theorem mD {base g n c:Nat} {w:World} {l:List Int} (h:aW bW 1 base 3 g n c w l) {k:Nat} (hk:k<l.length):w.cell? ⟨g,k,none⟩=some (.int .i64 (l.getD k 0)):=by
 have h2:=aW.range kW h hk 0 (.int .i64 l[k]) rfl;rw[Nat.mul_one,Nat.add_zero]at h2;rw[h2];simp[hk]
theorem yJ {base g n c:Nat} {w:World} {l:List Int} (h:aW bW 1 base 3 g n c w l) {k:Nat} (hk:k<l.length):w.frozen? ⟨g,k,none⟩=false:=by
 have h2:=(aW.there kW h hk 0 (by omega)).2;rwa[Nat.mul_one,Nat.add_zero]at h2
theorem Iz {base g n c:Nat} {w:World} {l:List Int} (h:aW bW 1 base 3 g n c w l) {k:Nat} (hk:k<l.length) (x:Int):aW bW 1 base 3 g n c (w.setCell ⟨g,k,none⟩ (.int .i64 x)) (l.set k x):=by
 have h2:=(aW.store kW h hk x).1;rw[Nat.mul_one]at h2;exact h2
theorem jG {base g n c:Nat} {w:World} {l:List Int} (h:aW bW 1 base 3 g n c w l) {p:Addr} (hne:g≠p.block) (u:Value):aW bW 1 base 3 g n c (w.setCell p u) l :=
 ⟨h.1,jH h.2 (fun e=>hne (by simpa [Value.ownBlock]using e)) u⟩
theorem TB {base g:Nat} {w:World} {l:List Int} (hb:aG w g 3 (intRow l)) (hl:l.length≤1000) (hg:base≤g):aW bW 1 base 3 g l.length l.length w l:=by
 refine⟨rfl,?_,.inr ⟨g,l.length,_,rfl,hg,hb,Nat.le_refl _,by unfold maxLen;omega,by simp[intRow],?_⟩⟩
 ·rw[qG];simp[intRow]
 ·rw[qG];exact List.take_of_length_le (by simp[intRow])
theorem Lu {w w':World} {base:Nat} {e:TypeId} {size:Nat} {v:Value} {n:Nat} {xs:List Value} (h:w.ownsRow base e size v n xs) (hk:∀g,v.ownBlock=some g→w'.heap[g]?=w.heap[g]?):w'.ownsRow base e size v n xs:=by
 refine⟨h.1,?_⟩;rcases h.2 with hn | ⟨g,cap,cur,rfl,hb,hgg,r⟩
 ·exact .inl hn
 ·exact .inr ⟨g,cap,cur,rfl,hb,(hk g rfl).trans hgg,r⟩
theorem gW {base g n c:Nat} {w w':World} {l:List Int} (h:aW bW 1 base 3 g n c w l) (hk:w'.heap[g]?=w.heap[g]?):aW bW 1 base 3 g n c w' l :=
 ⟨h.1,Lu h.2 (fun q e=>by obtain rfl:g=q:=(by simpa [Value.ownBlock]using e);exact hk)⟩
structure Bo (w:World) (B:Nat) (v:Value) (S C:List Int):Prop where
 it:∃gs gc c,v=.agg #[.slice (some ⟨gs,0,none⟩) 24 24,.slice (some ⟨gc,0,none⟩) 24 c]∧aW bW 1 B 3 gs 24 24 w S∧aW bW 1 B 3 gc 24 c w C∧gs≠gc
theorem Bo.ext {w w':World} {B:Nat} {v:Value} {S C:List Int} (h:Bo w B v S C) (hx:Ext w w'):Bo w' B v S C:=by
 obtain⟨gs,gc,c,h1,h2,h3,h4⟩:=h.it;exact⟨gs,gc,c,h1,h2.ext hx,h3.ext hx,h4⟩
theorem Bo.base {w:World} {B B':Nat} {v:Value} {S C:List Int} (h:Bo w B v S C) (hb:B'≤B):Bo w B' v S C:=by
 obtain⟨gs,gc,c,h1,h2,h3,h4⟩:=h.it;exact⟨gs,gc,c,h1,⟨h2.1,own_base h2.2 hb⟩,⟨h3.1,own_base h3.2 hb⟩,h4⟩
theorem dJ:(Tryz.prog.info? 60).map (·.size)=some 2:=by kernel_rfl
theorem xY {P:Program} (w:World) (t ty e:TypeId) (i:TypeInfo) (z:Value) (size bytes:Nat) (ht:P.underlying t=some (.slice e)) (hi:P.info? e=some i) (hz:i.zero=some z)
  (hsize:i.size=size) (hby:i.bytes=bytes) (hzs:z.cells.size=size) (hsz:0<size) (g:Nat)
  (B:Nat) (A:Option Addr) (m c:Nat) (news:List Value) (hr:Reads w B size A m news) (hm:0<m) (h63:m≤maxLen) (hbytes:m*bytes≤140737488355328) :
  ∃v' w',(Builtin.append_ #[t,t] ty #[.slice (some ⟨g,0,none⟩) 0 0,.slice A m c]).run P w=.ok v' w'∧w'.ownsRow w.heap.size e size v' m news∧Ext w w':=by
 obtain⟨b,o,rfl,_,hc⟩:=hr.2 hm;obtain⟨v',w',hrun,r1,r2⟩:=run_append_arg_grows (P:=P) w t ty e i z size bytes ht hi hz hsize hby hzs hsz ⟨g,0,none⟩ 0 0 [] (by simp) (by simp) ⟨b,o,none⟩ m c news hr.1 (fun j u hj=>by rw[Addr.add_lit];exact hc j u hj) (by omega) (by omega) (by simpa using hbytes);exact⟨v',w',hrun,by simpa using r1,Below.grown (Below.refl _ _) r2 (Nat.le_refl _) (fun k hk=>by cases hk)⟩
theorem IB:(Tryz.prog.info? 3).map (fun i=>(i.zero,i.size,i.bytes))=some (some (.int .i64 0),1,8):=by kernel_rfl
set_option maxRecDepth 100000 in
set_option maxHeartbeats 2000000 in
theorem LC (go gs gl:Nat) (p f lo hi no tu sl a b look la:Int) (hv:qP ⟨p,f,lo,hi,no,tu,sl⟩ a b look=true) (hla : -10≤la∧la≤10) (w:World)
  (ko:aG w go 51 #[.int .i64 p,.int .i64 f,.int .i64 lo,.int .i64 hi,.int .i64 no,.int .i64 tu,.int .i64 sl]) (ks:aG w gs 32 #[.int .i64 a,.int .i64 b]) (kl:aG w gl 3 #[.int .i64 look]) :
  Calls Tryz.prog 55 #[.int .i64 la,.pointer (some ⟨go,0,none⟩),.pointer (some ⟨gs,0,none⟩),.pointer (some ⟨gl,0,none⟩)] w fun e w'=>(∃v,e=.returned v∧Bo w' w.heap.size v (wu ⟨p,f,lo,hi,no,tu,sl⟩ look la a b) (wu ⟨p,f,lo,hi,no,tu,sl⟩ look la a b))∧Ext w w':=by
 have HAR:=Lib.hid (fun W=>O5 p f lo hi no tu sl a b look la hv hla W);have hal:=Tz ⟨p,f,lo,hi,no,tu,sl⟩ look la a b;generalize wu ⟨p,f,lo,hi,no,tu,sl⟩ look la a b=R at HAR hal⊢;have hx0:Ext w (w.alloc (.cells #[.slice none 0 0,.slice none 0 0] 60)):=aj (Below.refl _ _) _;have K5:=aG.new w 60 #[.slice none 0 0,.slice none 0 0];have o0:(w.alloc (.cells #[.slice none 0 0,.slice none 0 0] 60)).cell? ⟨go,0,none⟩=some (.int .i64 p):=(ko.ext hx0).cell 0;have o1:(w.alloc (.cells #[.slice none 0 0,.slice none 0 0] 60)).cell? ⟨go,1,none⟩=some (.int .i64 f):=(ko.ext hx0).cell 1;have o2:(w.alloc (.cells #[.slice none 0 0,.slice none 0 0] 60)).cell? ⟨go,2,none⟩=some (.int .i64 lo):=(ko.ext hx0).cell 2;have o3:(w.alloc (.cells #[.slice none 0 0,.slice none 0 0] 60)).cell? ⟨go,3,none⟩=some (.int .i64 hi):=(ko.ext hx0).cell 3;have o4:(w.alloc (.cells #[.slice none 0 0,.slice none 0 0] 60)).cell? ⟨go,4,none⟩=some (.int .i64 no):=(ko.ext hx0).cell 4;have o5:(w.alloc (.cells #[.slice none 0 0,.slice none 0 0] 60)).cell? ⟨go,5,none⟩=some (.int .i64 tu):=(ko.ext hx0).cell 5;have o6:(w.alloc (.cells #[.slice none 0 0,.slice none 0 0] 60)).cell? ⟨go,6,none⟩=some (.int .i64 sl):=(ko.ext hx0).cell 6;have s0:(w.alloc (.cells #[.slice none 0 0,.slice none 0 0] 60)).cell? ⟨gs,0,none⟩=some (.int .i64 a):=(ks.ext hx0).cell 0;have s1:(w.alloc (.cells #[.slice none 0 0,.slice none 0 0] 60)).cell? ⟨gs,1,none⟩=some (.int .i64 b):=(ks.ext hx0).cell 1;have l0:(w.alloc (.cells #[.slice none 0 0,.slice none 0 0] 60)).cell? ⟨gl,0,none⟩=some (.int .i64 look):=(kl.ext hx0).cell 0;clear ko ks kl;go_enter Tryz.func55,Tryz.ntmps55;go_wp2_with fail;refine (HAR.out _).mono ?_;rintro e W1 ⟨gr,rfl,hgr,kr,hy⟩;have K5:=K5.ext hy;have hgw:w.heap.size<gr:=by simp at hgr;omega
 have hx1:=Ext.trans hx0 hy;have hx2:Ext W1 (W1.alloc (.cells #[.slice (some ⟨gr,0,none⟩) 24 24] 58)):=aj (Below.refl _ _) _;have K6:=aG.new W1 58 #[.slice (some ⟨gr,0,none⟩) 24 24];clear o0 o1 o2 o3 o4 o5 o6 s0 s1 l0 hy hgr HAR hx0;go_upto_region 2 with (fail);obtain⟨g6,hg6⟩:∃k,k=W1.heap.size:=⟨_,rfl⟩;rw[←hg6]at K6⊢;generalize W1.alloc (.cells #[.slice (some ⟨gr,0,none⟩) 24 24] 58)=W2 at K6 hx2⊢;have K5:=K5.ext hx2;have kr:=kr.ext hx2;have hB:=Ext.trans hx1 hx2;have u6:W2.cell? ⟨g6,0,none⟩=some (.slice (some ⟨gr,0,none⟩) 24 24):=K6.cell 0;have HKR:=Lib.hid kr;have hrl:gr<W2.heap.size:=kr.lt;have hrd:∀(W:World),Ext W2 W→Reads W W2.heap.size 1 (some ⟨gr,0,none⟩) 24 (R.flatMap bW):=fun W hx=>⟨by rw[qG];simp[intRow,hal],fun _=>⟨gr,0,rfl,hrl,fun j u hu=>by
  rw[Nat.zero_add,(kr.ext hx).cell];rw[qG]at hu;simpa using hu⟩⟩
 have Vs:=Lib.hid hrd;clear hx1 hx2 hg6 kr hrd;refine iw 7 (fun ix vals v w1=>match ix with | 0=>v=.agg #[.slice (some ⟨gr,0,none⟩) 24 24] | 1=>∃g,v=.slice (some ⟨g,0,none⟩) 0 0 | 2=>v=.pointer (some ⟨g6,0,none⟩) | 3=>v=.slice (some ⟨gr,0,none⟩) 24 24 | 4=>∃gc c,v=.slice (some ⟨gc,0,none⟩) 24 c∧aW bW 1 W2.heap.size 3 gc 24 c w1 R | 5=>∃gc c,v=.agg #[.slice (some ⟨gc,0,none⟩) 24 c]∧aW bW 1 W2.heap.size 3 gc 24 c w1 R | _=>∃gc c,v=.agg #[.slice (some ⟨gr,0,none⟩) 24 24,.slice (some ⟨gc,0,none⟩) 24 c]∧aW bW 1 W2.heap.size 3 gc 24 c w1 R) (by kernel_rfl) (by kernel_rfl) ?_ ?_ ?_ ?_
 ·intro ix vals v w1 w2 hi hr hx
  match ix,hr with
  |0,hr=>exact hr
  |1,hr=>exact hr
  |2,hr=>exact hr
  |3,hr=>exact hr
  |4,hr=>obtain⟨g,c,h1,h2⟩:=hr;exact⟨g,c,h1,h2.ext hx⟩
  |5,hr=>obtain⟨g,c,h1,h2⟩:=hr;exact⟨g,c,h1,h2.ext hx⟩
  |(kx+6),hr=>obtain⟨g,c,h1,h2⟩:=hr;exact⟨g,c,h1,h2.ext hx⟩
 ·intro ix vals vJ v w1 hi hv hr;exact hr
 ·refine⟨?_,?_,?_,?_,?_,?_,?_,trivial⟩
  ·intro vals w1 hx hd ha;clear hd ha;simp only[Lf];have u6:=ah hx u6;go_wp2;exact q_
  ·intro vals w1 hx hd ha;clear hd ha;simp only[Lf,au,Act.put,FR_];go_wp2;exact⟨rfl,(by repeat (first | exact Below.refl _ _ | assumption | refine Below.drew ?_ | refine below_drewN ?_ _ | refine aj ?_ _ | refine Below.setCell ?_ (by first | (simp;done) | omega | (simp;omega)) _ | refine aA ?_ (by assumption))),_,rfl⟩
  ·intro vals w1 hx hd ha;clear hd ha;simp only[Lf,au,Act.put,FR_];go_wp2;exact q_
  ·intro vals w1 hx hd ha;have e2:vals 2=.pointer (some ⟨g6,0,none⟩):=hd 2 (by decide);clear hd ha;simp only[Lf,au,Act.put,FR_,e2];clear e2;have u6:=ah hx u6;go_wp2;exact q_
  ·intro vals w1 hx hd ha;have r1:(fun v w1=>∃g,v=.slice (some ⟨g,0,none⟩) 0 0) (vals 1) w1:=hd 1 (by decide);dsimp only at r1;have e3:vals 3=.slice (some ⟨gr,0,none⟩) 24 24:=hd 3 (by decide);clear hd ha;simp only[Lf,au,Act.put,FR_];obtain⟨g,h1⟩:=r1;rw[h1,e3];obtain⟨i0,hi0,hz0,hz1,hz2⟩:=info_parts IB;obtain⟨v',w',hrun,q1,q2⟩:=xY (P:=Tryz.prog) w1 40 40 3 i0 (.int .i64 0) 1 8 Tryz.underlying40 hi0 hz0 hz1 hz2 rfl (by decide) g W2.heap.size (some ⟨gr,0,none⟩) 24 24 _ (Vs.out w1 hx.aH) (by decide) (by unfold maxLen;omega) (by omega);obtain⟨gc,cc,hv',_,_⟩:=World.ownsRow.form q1 (by decide);subst hv';refine aP rfl _ _ _ rfl rfl rfl hrun ?_;have hsz:=Below.size hx.aH;go_wp2;exact⟨rfl,q2,gc,cc,rfl,hal,own_base q1 hsz⟩
  ·intro vals w1 hx hd ha;have r4:(fun v w1=>∃gc c,v=.slice (some ⟨gc,0,none⟩) 24 c∧aW bW 1 W2.heap.size 3 gc 24 c w1 R) (vals 4) w1:=hd 4 (by decide);dsimp only at r4;clear hd ha;simp only[Lf,au,Act.put,FR_];obtain⟨gc,c,h1,h2⟩:=r4;simp only[h1];go_wp2;exact⟨rfl,Ext.refl _,_,_,rfl,h2⟩
  ·intro vals w1 hx hd ha;have e0:vals 0=.agg #[.slice (some ⟨gr,0,none⟩) 24 24]:=hd 0 (by decide);have r5:(fun v w1=>∃gc c,v=.agg #[.slice (some ⟨gc,0,none⟩) 24 c]∧aW bW 1 W2.heap.size 3 gc 24 c w1 R) (vals 5) w1:=hd 5 (by decide);dsimp only at r5;clear hd ha;simp only[Lf,au,Act.put,FR_];obtain⟨gc,c,h1,h2⟩:=r5;simp only[h1,e0];go_wp2;exact⟨rfl,Ext.refl _,_,_,rfl,h2⟩
 intro vals W5 hx5 hf;obtain⟨gc,c,e6,hrow⟩:∃gc c,vals 6=.agg #[.slice (some ⟨gr,0,none⟩) 24 24,.slice (some ⟨gc,0,none⟩) 24 c]∧aW bW 1 W2.heap.size 3 gc 24 c W5 R:=hf 6 (by omega);clear hf u6;have hx5:=hx5.aH;have K5:=K5.ext hx5;have iJ:=Ext.trans hB hx5;have hkr:=HKR.out.ext hx5;have hgc:=(World.ownsRow.lt hrow.2 gc rfl).1;have hne:gr≠gc:=by omega
 have hrs:=TB (base:=w.heap.size) hkr (by omega) (by omega);rw[hal]at hrs;have hrc:aW bW 1 w.heap.size 3 gc 24 c W5 R:=⟨hrow.1,own_base hrow.2 hB.size⟩;have h5r:w.heap.size≠gr:=by omega
 have h5c:w.heap.size≠gc:=fun e=>bQ hrc.2 K5 (by decide) (by rw[e];rfl);have K5N:=K5.row #[.slice (some ⟨gr,0,none⟩) 24 24,.slice (some ⟨gc,0,none⟩) 24 c];have HB5:=Lib.hid (below_setRow iJ (g:=w.heap.size) (Nat.le_refl _) #[.slice (some ⟨gr,0,none⟩) 24 24,.slice (some ⟨gc,0,none⟩) 24 c]);have Qm:=Lib.hid K5;have HK5N:=Lib.hid K5N;have yR:=Lib.hid hrs;have HRC:=Lib.hid hrc;clear hkr hgc hrow hB iJ hx5 K5 K5N hrs hrc Vs HKR K6 hrl hgw;refine eP 7 _ (by kernel_rfl) (by kernel_rfl) rfl ?_;simp only[Lf,au,Act.put,FR_];rw[e6];clear e6;go_wp2_with (refine wpList_store_row rfl 60 _ _ rfl w.heap.size #[.slice (some ⟨gr,0,none⟩) 24 24,.slice (some ⟨gc,0,none⟩) 24 c] rfl rfl 60 _ Qm.out dJ rfl (by simp[Value.oneCell']) ?_);exact bodyPost_ret (gG Tryz.results55 _ _ w.heap.size _ rfl HK5N.out _ Tryz.underlying60 rfl dJ) rfl ⟨⟨_,rfl,⟨gr,gc,c,rfl,gW yR.out (setRow_other _ _ _ _ (fun e=>h5r e.symm)),gW HRC.out (setRow_other _ _ _ _ (fun e=>h5c e.symm)),hne⟩⟩,HB5.out⟩
end Go.Proofs.YtjidhhfabfnhnaaGreat
namespace Go.Proofs.YtjidhhfabfnhnaaGreat
open Go.RowKit Go.Shelf
attribute [local go_sem] Oper.semAt_some
theorem sK (w:World) (g:Nat) (cs:Array Value):w.grownBy (w.setRow g cs) (some g) :=
 ⟨rfl,rfl,rfl,by simp[World.setRow],fun k hk hne=>by
  simp only[World.setRow,Array.getElem?_modify];rw[if_neg (fun e=>hne (by rw[e]))]⟩
structure Mix (f:Int→Int→Int) (S T S':List Int) (k:Nat):Prop where
 len:S'.length=24
 lo:∀i:Nat,i<k→i<24→S'.getD i 0=f (S.getD i 0) (T.getD i 0)
 hi:∀i:Nat,k≤i→i<24→S'.getD i 0=S.getD i 0
theorem Mix.zero {f:Int→Int→Int} {S T:List Int} (h:S.length=24):Mix f S T S 0:=⟨h,fun i h _=>absurd h (by omega),fun _ _ _=>rfl⟩
theorem D8 (l:List Int) (k:Nat) (x:Int) (hk:k<l.length) (i:Nat):(l.set k x).getD i 0=if i=k then x else l.getD i 0:=by
 rw[List.getD_eq_getElem?_getD,List.getD_eq_getElem?_getD,List.getElem?_set];by_cases h:k=i
 ·subst h;simp[hk]
 ·rw[if_neg h,if_neg (fun e=>h e.symm)]
theorem Mix.step {f:Int→Int→Int} {S T S':List Int} {k:Nat} (h:Mix f S T S' k) (hk:k<24):Mix f S T (S'.set k (f (S.getD k 0) (T.getD k 0))) (k+1):=by
 refine⟨by rw[List.length_set,h.len],fun i h1 h2=>?_,fun i h1 h2=>?_⟩
 ·rw[D8 _ _ _ (by rw[h.len];exact hk)];by_cases e:i=k
  ·subst e;rw[if_pos rfl]
  ·rw[if_neg e];exact h.lo i (by omega) h2
 ·rw[D8 _ _ _ (by rw[h.len];exact hk),if_neg (by omega)];exact h.hi i (by omega) h2
theorem Mix.fin {f:Int→Int→Int} {S T S':List Int} (h:Mix f S T S' 24) (h1:S.length=24) (h2:T.length=24):S'=List.zipWith f S T:=by
 refine List.ext_getElem (by rw[h.len,List.length_zipWith,h1,h2];rfl) fun i a b=>?_;have h3:=h.len;have e:=h.lo i (by omega) (by omega);rw[List.getD_eq_getElem?_getD,List.getD_eq_getElem?_getD,List.getD_eq_getElem?_getD,List.getElem?_eq_getElem a,List.getElem?_eq_getElem (show i<S.length by omega),List.getElem?_eq_getElem (show i<T.length by omega)]at e;rw[List.getElem_zipWith];exact e
set_option maxRecDepth 100000 in
theorem LD (v1 v2:Value) (w:World) (A1 A2:Option Addr) (c1 c2:Nat) (h1:v1=.slice A1 24 c1) (h2:v2=.slice A2 24 c2):Calls Tryz.prog 59 #[.agg #[v1,v2]] w fun e w'=>e=.returned (.agg #[v1,v2])∧Ext w w':=by
 subst h1 h2;have K2:aG ((w.alloc (.cells #[.slice A1 24 c1,.slice A2 24 c2] 60)).alloc (.cells #[.slice A1 24 c1,.slice A2 24 c2] 60)) (w.heap.size+1) 60 #[.slice A1 24 c1,.slice A2 24 c2]:=aG.bC _ _ _ (by simp);have hx:Ext w ((w.alloc (.cells #[.slice A1 24 c1,.slice A2 24 c2] 60)).alloc (.cells #[.slice A1 24 c1,.slice A2 24 c2] 60)):=aj (aj (Below.refl _ _) _) _;go_enter Tryz.func59,Tryz.ntmps59;go_wp2;exact bodyPost_ret (gG Tryz.results59 _ _ (w.heap.size+1) _ rfl K2 _ Tryz.underlying60 rfl dJ) rfl ⟨rfl,hx⟩
set_option maxRecDepth 100000 in
set_option maxHeartbeats 2000000 in
theorem LG (B B3 gs gc c gs2 gc2 c2:Nat) (S C S2 C2:List Int) (w:World) (h1:aW bW 1 B 3 gs 24 24 w S) (h2:aW bW 1 B 3 gc 24 c w C) (h3:aW bW 1 B3 3 gs2 24 24 w S2) (h4:aW bW 1 B3 3 gc2 24 c2 w C2)
  (hne:gs≠gc) (n1:gs2≠gs) (n2:gs2≠gc) (n3:gc2≠gs) (n4:gc2≠gc) :
  Calls Tryz.prog 57 #[.agg #[.slice (some ⟨gs,0,none⟩) 24 24,.slice (some ⟨gc,0,none⟩) 24 c],.agg #[.slice (some ⟨gs2,0,none⟩) 24 24,.slice (some ⟨gc2,0,none⟩) 24 c2]] w fun e w'=>e=.returned (.agg #[.slice (some ⟨gs,0,none⟩) 24 24,.slice (some ⟨gc,0,none⟩) 24 c]) ∧
   aW bW 1 B 3 gs 24 24 w' (List.zipWith jQ S S2)∧aW bW 1 B 3 gc 24 c w' (List.zipWith kG C C2)∧iW (fun q=>q=gs∨q=gc) B w.heap.size w w':=by
 have hb1:=(World.ownsRow.lt h1.2 gs rfl);have hb2:=(World.ownsRow.lt h2.2 gc rfl);have hl3:=h3.lt;have hl4:=h4.lt;have hcap:=h2.le.1;have hcap2:=h4.le.1;have hBw:B≤w.heap.size:=by omega
 generalize hW0:(((w.alloc (.cells #[.slice (some ⟨gs,0,none⟩) 24 24,.slice (some ⟨gc,0,none⟩) 24 c] 60)).alloc (.cells #[.slice (some ⟨gs2,0,none⟩) 24 24,.slice (some ⟨gc2,0,none⟩) 24 c2] 60)).alloc (.cells #[.slice none 0 0,.slice none 0 0] 60))=W0;obtain⟨ga,hga⟩:∃k,k=w.heap.size:=⟨_,rfl⟩;obtain⟨gb,hgb⟩:∃k,k=w.heap.size+1:=⟨_,rfl⟩;obtain⟨g4,hg4⟩:∃k,k=w.heap.size+1+1:=⟨_,rfl⟩;have Ka:aG W0 ga 60 #[.slice (some ⟨gs,0,none⟩) 24 24,.slice (some ⟨gc,0,none⟩) 24 c]:=by subst hW0;exact (((aG.bC _ _ _ (by simp[hga])).alloc _).alloc _)
 have Kb:aG W0 gb 60 #[.slice (some ⟨gs2,0,none⟩) 24 24,.slice (some ⟨gc2,0,none⟩) 24 c2]:=by subst hW0;exact (aG.bC _ _ _ (by simp[hgb])).alloc _
 have K4:aG W0 g4 60 #[.slice none 0 0,.slice none 0 0]:=by subst hW0;exact aG.bC _ _ _ (by simp[hg4])
 have hx0:Ext w W0:=by subst hW0;exact aj (aj (aj (Below.refl _ _) _) _) _
 have hk0:iW (fun q=>q=gs∨q=gc) B w.heap.size w W0:=iW.ext hx0 hBw (Nat.le_refl _);have r1:=h1.ext hx0;have r2:=h2.ext hx0;have Oh:Hid (Mix jQ S S2 S 0):=Lib.hid (Mix.zero h1.1);have Ce:Hid (Mix kG C C2 C 0):=Lib.hid (Mix.zero h2.1);have H3:Hid (∀W,iW (fun q=>q=gs∨q=gc) B w.heap.size w W→aW bW 1 B3 3 gs2 24 24 W S2):=Lib.hid (fun W hk=>gW h3 (hk.get hl3 (by omega)));have H4:Hid (∀W,iW (fun q=>q=gs∨q=gc) B w.heap.size w W→aW bW 1 B3 3 gc2 24 c2 W C2):=Lib.hid (fun W hk=>gW h4 (hk.get hl4 (by omega)));have HL:Hid (S.length=24∧C.length=24∧S2.length=24∧C2.length=24):=Lib.hid ⟨h1.1,h2.1,h3.1,h4.1⟩;have u1:W0.cell? ⟨ga,0,none⟩=some (.slice (some ⟨gs,0,none⟩) 24 24):=Ka.cell 0;have hgs4:w.heap.size≤g4:=by omega
 have hne1:ga≠gs∧ga≠gc∧gb≠gs∧gb≠gc∧g4≠gs∧g4≠gc:=by omega
 have NP:=Lib.hid hne1;have jE:=Lib.hid hne;have hcap3:(24:Int)≤(c:Int):=by omega
 have HG4:=Lib.hid hgs4;have HBB:Hid (B≤gs∧B≤gc):=Lib.hid ⟨hb1.1,hb2.1⟩;have Xk:=Lib.hid hBw;have HSZ:=Lib.hid hx0.size;have HR1:=Lib.hid r1;have HR2:=Lib.hid r2;have Ns:=Lib.hid hk0;clear h1 h2 h3 h4 hb1 hb2 hl3 hl4 n1 n2 n3 n4 hne hx0 hcap hcap2 hBw hgs4 hne1 r1 r2 hk0;go_enter Tryz.func57,Tryz.ntmps57;go_upto_region 1 with (fail);rw[←hg4,←hgb,←hga];clear hW0 hga hgb hg4;go_wp2;go_loopw [10] (fun i wr=>∃(k:Nat) (S' C':List Int),k≤24∧i=.int .i64 k∧Hid (Mix jQ S S2 S' k)∧Hid (Mix kG C C2 C' k)∧Hid (aW bW 1 B 3 gs 24 24 wr S')∧Hid (aW bW 1 B 3 gc 24 c wr C')∧Hid (iW (fun q=>q=gs∨q=gc) B w.heap.size w wr)∧aG wr ga 60 #[.slice (some ⟨gs,0,none⟩) 24 24,.slice (some ⟨gc,0,none⟩) 24 c]∧aG wr gb 60 #[.slice (some ⟨gs2,0,none⟩) 24 24,.slice (some ⟨gc2,0,none⟩) 24 c2]∧aG wr g4 60 #[.slice none 0 0,.slice none 0 0]∧Hid (w.heap.size≤wr.heap.size)) (fun i _=>24-(intOf i).toNat)
 case atStart=>exact⟨0,S,C,Nat.zero_le _,rfl,Oh,Ce,HR1,HR2,Ns,Ka,Kb,K4,HSZ⟩
 case round =>
  clear Oh Ce HR1 HR2 Ns Ka Kb K4 u1 HSZ;obtain⟨k,S',C',hk,rfl,Oh,Ce,HR1,HR2,HK,Ka,Kb,K4,HSZ⟩:=hrel;by_cases hk24:k<24
  ·have hkz:(k:Int)<24:=by omega
   have hkc:(k:Int)<(c:Int):=by omega
   obtain⟨x1,hx1⟩:∃x,x=S.getD k 0:=⟨_,rfl⟩;obtain⟨x2,hx2⟩:∃x,x=S2.getD k 0:=⟨_,rfl⟩;obtain⟨y1,hy1⟩:∃x,x=C.getD k 0:=⟨_,rfl⟩;obtain⟨y2,hy2⟩:∃x,x=C2.getD k 0:=⟨_,rfl⟩;have M1:=Oh.out.step hk24;have M2:=Ce.out.step hk24;have u2:wr.cell? ⟨gs,k,none⟩=some (.int .i64 x1):=by rw[mD HR1.out (by rw[Oh.out.len];exact hk24),Oh.out.hi k (Nat.le_refl _) hk24,hx1]
   have u4:wr.cell? ⟨gs2,k,none⟩=some (.int .i64 x2):=by rw[mD (H3.out _ HK.out) (by rw[HL.out.2.2.1];exact hk24),hx2]
   rw[←hx1,←hx2]at M1;rw[←hy1,←hy2]at M2;have HM1b:=Lib.hid M1;have HM2b:=Lib.hid M2;have V8:=Lib.hid hy1;have HY2:=Lib.hid hy2;have u1:wr.cell? ⟨ga,0,none⟩=some (.slice (some ⟨gs,0,none⟩) 24 24):=Ka.cell 0;have u3:wr.cell? ⟨gb,0,none⟩=some (.slice (some ⟨gs2,0,none⟩) 24 24):=Kb.cell 0;have hand:=Xi x1 x2;clear M1 M2 hx1 hx2 hy1 hy2;go_upto_region 4 with (fail);refine aF 14 [some (.pointer (some ⟨ga,0,none⟩)),some (.pointer (some ⟨ga,0,none⟩)),some (.slice (some ⟨gs,0,none⟩) 24 24),some (.int .i64 k),some (.pointer (some ⟨gs,k,none⟩)),some (.int .i64 x1),some (.pointer (some ⟨gb,0,none⟩)),some (.pointer (some ⟨gb,0,none⟩)),some (.slice (some ⟨gs2,0,none⟩) 24 24),some (.int .i64 k),some (.pointer (some ⟨gs2,k,none⟩)),some (.int .i64 x2),some (.int .i64 (jQ x1 x2)),some (.pointer (some ⟨gs,k,none⟩))] [] ?_ ?_ ?_
   ·trivial
   ·refine⟨?_,?_,?_,?_,?_,?_,?_,?_,?_,?_,?_,?_,?_,?_,trivial⟩
    all_goals
     intro vals w1 hx hd;clear hd;simp only[Lf,au,Act.put,bH,bG];have u1:=ah hx u1;have u2:=ah hx u2;have u3:=ah hx u3;have u4:=ah hx u4;go_wp2;exact iq
   intro vals w5 hx5 hf;have e12:vals 12=.int .i64 (jQ x1 x2):=hf 12 (by omega);have e13:vals 13=.pointer (some ⟨gs,k,none⟩):=hf 13 (by omega);clear hf u1 u2 u3 u4 hand;have hx5:=hx5.aH;have f5:w5.frozen? ⟨gs,k,none⟩=false:=yJ (HR1.out.ext hx5) (by rw[Oh.out.len];exact hk24);have c5:∃u,w5.cell? ⟨gs,k,none⟩=some u:=⟨_,mD (HR1.out.ext hx5) (by rw[Oh.out.len];exact hk24)⟩;obtain⟨u5,c5⟩:=c5;have hsz5:w.heap.size≤w5.heap.size:=Nat.le_trans HSZ.out hx5.size;have R1:=Iz (HR1.out.ext hx5) (k:=k) (by rw[Oh.out.len];exact hk24) (jQ x1 x2);have R2:=jG (HR2.out.ext hx5) (p:=⟨gs,k,none⟩) (Ne.symm jE.out) (.int .i64 (jQ x1 x2));have Ka:=(Ka.ext hx5).far (p:=⟨gs,k,none⟩) NP.out.1 (.int .i64 (jQ x1 x2));have Kb:=(Kb.ext hx5).far (p:=⟨gs,k,none⟩) NP.out.2.2.1 (.int .i64 (jQ x1 x2));have K4:=(K4.ext hx5).far (p:=⟨gs,k,none⟩) NP.out.2.2.2.2.1 (.int .i64 (jQ x1 x2));have hK:=(HK.out.trans (iW.ext hx5 Xk.out HSZ.out)).trans (iW.step (eG w5 ⟨gs,k,none⟩ (.int .i64 (jQ x1 x2))) Xk.out hsz5 (fun r e=>by cases e;exact .inl ⟨.inl rfl,HBB.out.1⟩));have FD:w.heap.size≤(w5.setCell ⟨gs,k,none⟩ (.int .i64 (jQ x1 x2))).heap.size:=by simpa using hsz5
   have HRb1:=Lib.hid R1;have TD:=Lib.hid R2;have HKb:=Lib.hid hK;have HSZb:=Lib.hid FD;clear R1 R2 hK hsz5 FD hx5 HK HR1 HR2 HSZ;refine eP 14 _ (by kernel_rfl) (by kernel_rfl) rfl ?_;simp only[Lf,au,Act.put,FR_];rw[e12,e13];clear e12 e13;go_upto_region 5 with (fail);clear f5 c5;generalize w5.setCell ⟨gs,k,none⟩ (.int .i64 (jQ x1 x2))=w6 at *;have v1:w6.cell? ⟨ga,1,none⟩=some (.slice (some ⟨gc,0,none⟩) 24 c):=Ka.cell 1;have v3:w6.cell? ⟨gb,1,none⟩=some (.slice (some ⟨gc2,0,none⟩) 24 c2):=Kb.cell 1;have v2:w6.cell? ⟨gc,k,none⟩=some (.int .i64 y1):=by rw[mD TD.out (by rw[Ce.out.len];exact hk24),Ce.out.hi k (Nat.le_refl _) hk24,V8.out]
   have v4:w6.cell? ⟨gc2,k,none⟩=some (.int .i64 y2):=by rw[mD (H4.out _ HKb.out) (by rw[HL.out.2.2.2];exact hk24),HY2.out]
   have hor:=Tt y1 y2;refine aF 14 [some (.pointer (some ⟨ga,1,none⟩)),some (.pointer (some ⟨ga,1,none⟩)),some (.slice (some ⟨gc,0,none⟩) 24 c),some (.int .i64 k),some (.pointer (some ⟨gc,k,none⟩)),some (.int .i64 y1),some (.pointer (some ⟨gb,1,none⟩)),some (.pointer (some ⟨gb,1,none⟩)),some (.slice (some ⟨gc2,0,none⟩) 24 c2),some (.int .i64 k),some (.pointer (some ⟨gc2,k,none⟩)),some (.int .i64 y2),some (.int .i64 (kG y1 y2)),some (.pointer (some ⟨gc,k,none⟩))] [] ?_ ?_ ?_
   ·trivial
   ·refine⟨?_,?_,?_,?_,?_,?_,?_,?_,?_,?_,?_,?_,?_,?_,trivial⟩
    all_goals
     intro vals w1 hx hd;clear hd;simp only[Lf,au,Act.put,bH,bG];have v1:=ah hx v1;have v2:=ah hx v2;have v3:=ah hx v3;have v4:=ah hx v4;go_wp2;exact iq
   intro vals w7 hx7 hf;have e12:vals 12=.int .i64 (kG y1 y2):=hf 12 (by omega);have e13:vals 13=.pointer (some ⟨gc,k,none⟩):=hf 13 (by omega);clear hf v1 v2 v3 v4 hor;have hx7:=hx7.aH;have f5:w7.frozen? ⟨gc,k,none⟩=false:=yJ (TD.out.ext hx7) (by rw[Ce.out.len];exact hk24);have c5:∃u,w7.cell? ⟨gc,k,none⟩=some u:=⟨_,mD (TD.out.ext hx7) (by rw[Ce.out.len];exact hk24)⟩;obtain⟨u5',c5⟩:=c5;have Fg:w.heap.size≤w7.heap.size:=Nat.le_trans HSZb.out hx7.size;have R2:=Iz (TD.out.ext hx7) (k:=k) (by rw[Ce.out.len];exact hk24) (kG y1 y2);have R1:=jG (HRb1.out.ext hx7) (p:=⟨gc,k,none⟩) jE.out (.int .i64 (kG y1 y2));have Ka:=(Ka.ext hx7).far (p:=⟨gc,k,none⟩) NP.out.2.1 (.int .i64 (kG y1 y2));have Kb:=(Kb.ext hx7).far (p:=⟨gc,k,none⟩) NP.out.2.2.2.1 (.int .i64 (kG y1 y2));have K4:=(K4.ext hx7).far (p:=⟨gc,k,none⟩) NP.out.2.2.2.2.2 (.int .i64 (kG y1 y2));have hK:=(HKb.out.trans (iW.ext hx7 Xk.out HSZb.out)).trans (iW.step (eG w7 ⟨gc,k,none⟩ (.int .i64 (kG y1 y2))) Xk.out Fg (fun r e=>by cases e;exact .inl ⟨.inr rfl,HBB.out.2⟩));have hsz8:w.heap.size≤(w7.setCell ⟨gc,k,none⟩ (.int .i64 (kG y1 y2))).heap.size:=by simpa using Fg
   have HRd1:=Lib.hid R1;have HRd2:=Lib.hid R2;have HKd:=Lib.hid hK;have HSZd:=Lib.hid hsz8;clear R1 R2 hK Fg hsz8 hx7 HKb HRb1 TD HSZb;refine eP 14 _ (by kernel_rfl) (by kernel_rfl) rfl ?_;simp only[Lf,au,Act.put,FR_];rw[e12,e13];clear e12 e13;go_wp2;go_roundw
   case rel=>exact⟨k+1,_,_,by omega,by go_num,HM1b,HM2b,HRd1,HRd2,HKd,Ka,Kb,K4,HSZd⟩
   case measure=>simp[intOf];omega
  ·have hke:k=24:=by omega
   subst hke;have e1:=Oh.out.fin HL.out.1 HL.out.2.2.1;have e2:=Ce.out.fin HL.out.2.1 HL.out.2.2.2;have R1:=HR1.out;have R2:=HR2.out;rw[e1]at R1;rw[e2]at R2;have a0:wr.cell? ⟨ga,0,none⟩=some (.slice (some ⟨gs,0,none⟩) 24 24):=Ka.cell 0;have a1:wr.cell? ⟨ga,1,none⟩=some (.slice (some ⟨gc,0,none⟩) 24 c):=Ka.cell 1;have K4N:=K4.row #[.slice (some ⟨gs,0,none⟩) 24 24,.slice (some ⟨gc,0,none⟩) 24 c];have hK2:=HK.out.trans (iW.step (sK wr g4 #[.slice (some ⟨gs,0,none⟩) 24 24,.slice (some ⟨gc,0,none⟩) 24 c]) Xk.out HSZ.out (fun r e=>by cases e;exact .inr HG4.out));have HA1:=Lib.hid (gW R1 (setRow_other wr g4 gs #[.slice (some ⟨gs,0,none⟩) 24 24,.slice (some ⟨gc,0,none⟩) 24 c] (fun e=>NP.out.2.2.2.2.1 e.symm)));have HA2:=Lib.hid (gW R2 (setRow_other wr g4 gc #[.slice (some ⟨gs,0,none⟩) 24 24,.slice (some ⟨gc,0,none⟩) 24 c] (fun e=>NP.out.2.2.2.2.2 e.symm)));have HK4:=Lib.hid K4;have HK4N:=Lib.hid K4N;have HK2:=Lib.hid hK2;clear e1 e2 R1 R2 K4N hK2 K4 HR1 HR2 Oh Ce HK;go_wp2_with (refine wpList_store_row rfl 60 _ _ rfl g4 #[.slice (some ⟨gs,0,none⟩) 24 24,.slice (some ⟨gc,0,none⟩) 24 c] rfl rfl 60 _ HK4.out dJ rfl (by simp[Value.oneCell']) ?_);exact bodyPost_ret (gG Tryz.results57 _ _ g4 _ rfl HK4N.out _ Tryz.underlying60 rfl dJ) rfl ⟨rfl,HA1.out,HA2.out,HK2.out⟩
end Go.Proofs.YtjidhhfabfnhnaaGreat
