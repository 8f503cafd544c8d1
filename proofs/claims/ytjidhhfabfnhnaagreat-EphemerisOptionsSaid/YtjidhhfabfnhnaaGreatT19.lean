/- swath.area. -/
import Derived.Test.YtjidhhfabfnhnaaGreatT18
import Derived.Test.YtjidhhfabfnhnaaGreatT10
namespace Go.Proofs.YtjidhhfabfnhnaaGreat
open Go.RowKit Go.Shelf
attribute [local go_sem] Oper.semAt_some
theorem kU.ne_own {κ:Type} [DecidableEq κ] {cells:κ→List Value} {w:World} {g base:Nat} {f:κ→Option Value} {v:Value} {n s:Nat} {t:TypeId} {xs:List Value} (h:kU cells w g f) (ho:w.ownsRow base t s v n xs):v.ownBlock≠some g:=by
 intro e;obtain⟨L,c,hb,_⟩:=h;rcases ho.2 with ⟨rfl,_⟩ | ⟨g',cap,cur,rfl,_,hh,_⟩
 ·simp[Value.ownBlock]at e
 ·have e2:g'=g:=by simpa [Value.ownBlock]using e
  rw[e2]at hh;rw[hb]at hh;cases hh
theorem kU.ne_blk {κ:Type} [DecidableEq κ] {cells:κ→List Value} {w:World} {g g':Nat} {f:κ→Option Value} {t:TypeId} {cs:Array Value} (h:kU cells w g f) (j:aG w g' t cs):g'≠g:=by
 intro e;subst e;obtain⟨L,c,hb,_⟩:=h;have hj:w.heap[g']?=some (.cells cs t (0,0)):=j;rw[hb]at hj;cases hj
theorem sG {P:Program} {w:World} {ops:Array Oper} {rest:List Oper} {o:Oper} {a:Act} {Q:Exit→Act→World→Prop} (hg:o.guard=none) (m x v:Operand) (t:TypeId) (hop:o.op=Op.mapUpdate t m x v) {M X V:Value} {w':World} (hm:a.eval m=M) (hx:a.eval x=X) (hv:a.eval v=V)
  (hrun:(Instr.mapUpdate t M X V).run P w=.ok () w') (hK:wpList P ops Q rest (a.put o.dst undef) w'):wpList P ops Q (o::rest) a w:=by
 refine wpList_plain hg fun K hK'=>?_;unfold Oper.wp;simp[execOp,hop,hm,hx,hv,hrun,Result.andThen];exact hK' _ _ hK
theorem vZ {P:Program} {w:World} {ops:Array Oper} {rest:List Oper} {o:Oper} {a:Act} {Q:Exit→Act→World→Prop} (hg:o.guard=none) (m x:Operand) (t:TypeId) (ok:Bool) (hop:o.op=Op.lookup t m x ok) {M X V:Value} {w':World} (hm:a.eval m=M) (hx:a.eval x=X)
  (hrun:(Instr.lookup t M X ok).run P w=.ok V w') (hK:wpList P ops Q rest (a.put o.dst V) w'):wpList P ops Q (o::rest) a w:=by
 refine wpList_plain hg fun K hK'=>?_;unfold Oper.wp;simp[execOp,hop,hm,hx,hrun,Result.andThen];exact hK' _ _ hK
theorem O1 (w:World):(zeroValue 4).run Tryz.prog w=.ok (.bool false) w:=by kernel_rfl
def Xa (l:List bP) (x:bP):Option Value:=if x∈l then some (.bool true) else none
def fC (a b:List bP):List bP:=a.filter (fun x=>!decide (x∈b))
theorem Xb (l:List bP) (x:bP):(Xa l x).getD (.bool false)=.bool (decide (x∈l)):=by
 unfold Xa;by_cases h:x∈l<;>simp[h]
theorem l9:(Tryz.prog.info? 75).map (·.size)=some 6:=by kernel_rfl
theorem FQ (x:bP) (P:Array Value) (h:(ak x).toArray=P):P.size=6∧P.toList=ak x∧P.all (·.oneCell')=true:=by
 subst h;obtain⟨a,b,⟨c,d⟩,⟨e,f⟩⟩:=x;refine⟨rfl,rfl,?_⟩;simp[ak,Value.oneCell']
set_option maxRecDepth 100000 in
set_option maxHeartbeats 1000000 in
theorem Xc (x:bP) (g5 gm:Nat) (b:List bP) (w:World) (hb:aG w g5 196 #[.map (some gm)]) (hm:kU ak w gm (Xa b)) :
  Calls Tryz.prog 138 #[.agg (ak x).toArray,.pointer (some ⟨g5,0,none⟩)] w fun e w'=>e=.returned (.bool (decide (x∈b)))∧Ext w w':=by
 obtain⟨P,hP⟩:∃P,(ak x).toArray=P:=⟨_,rfl⟩;obtain⟨Cj,hPl,hP1⟩:=FQ x P hP;rw[hP];have oH:=Lib.hid hP;have ug:=Lib.hid Cj;have wV:=Lib.hid hP1;have hx:Ext w (w.alloc (.cells P 75)):=aj (Below.refl _ _) _;have J:=Lib.hid (aG.new w 75 P);have c0:(w.alloc (.cells P 75)).cell? ⟨g5,0,none⟩=some (.map (some gm)):=(hb.ext hx).cell 0;have hlk:=(hm.ext hx).look NU Tryz.underlying196 (O1 _) x P hP.symm false;simp only[Bool.false_eq_true,if_false,Xb]at hlk;have HLK:=Lib.hid hlk;have HX:=Lib.hid hx;clear hP Cj hPl hP1 hx hlk hb hm;go_enter Tryz.func138,Tryz.ntmps138;go_wp2_with (first | (refine ay rfl _ _ rfl w.heap.size 0 rfl P (ak x) oH.out _ (aG.range J.out (ak x) (by rw[←oH.out])) Tryz.underlying75 rfl l9 ?_) | (refine vZ rfl _ _ _ _ rfl rfl rfl HLK.out ?_));go_ret;exact⟨rfl,HX.out⟩
theorem Ir (K:Nat) (caps:Array Value) (w:World) :
  Calls Tryz.prog 136 #[.slice none 0 0,.func (.func K) #[] caps] w fun e w'=>e=.returned (.slice none 0 0)∧Ext w w':=by
 have hi:Calls Tryz.prog 124 #[.slice none 0 0,.func (.func K) #[] caps] w fun e w'=>e=.returned (.int .i64 (-1))∧Ext w w':=by
  go_enter Tryz.func124,Tryz.ntmps124;go_wp2;go_loopw [8] (fun i wr=>i=.int .i64 0∧wr=w) (fun _ _=>0)
  case atStart=>exact⟨rfl,rfl⟩
  case round =>
   obtain⟨rfl,rfl⟩:=hrel;go_wp2;go_ret;exact⟨rfl,Ext.refl _⟩
 have HI:=Lib.hid hi;clear hi;go_enter Tryz.func136,Tryz.ntmps136;go_wp2_with fail;refine HI.out.mono ?_;rintro e w1 ⟨rfl,hx⟩;have HX:=Lib.hid hx;clear hx;go_wp2;go_ret;exact⟨rfl,HX.out⟩
theorem Tj (l:List bP) (x:bP):∀j,(if j=x then some (.bool true) else Xa l j)=Xa (l++[x]) j:=by
 intro j;unfold Xa;by_cases h:j=x<;>by_cases h2:j∈l<;>simp[h,h2]
set_option maxRecDepth 100000 in
set_option maxHeartbeats 2000000 in
theorem yI (a b:List bP) (A B:Option Addr) (an ac bn bc:Nat) (w:World) (ha:RA ak 6 w w.heap.size A an ac a) (hb:RA ak 6 w w.heap.size B bn bc b) (hn:an≤2000) :
  Calls Tryz.prog 83 #[.slice A an ac,.slice B bn bc] w fun e w'=>(∃A' c',e=.returned (.slice A' (fC a b).length c')∧RA ak 6 w' w'.heap.size A' (fC a b).length c' (fC a b))∧Ext w w':=by
 have hbn:bn≤9223372036854775807:=hb.le;have Qu:=Lib.hid hb.len;have HA:=Lib.hid ha;have HB:=Lib.hid hb;clear ha hb;have hmm:∀w:World,(Instr.makeMap 196 none).run Tryz.prog w=.ok (.map (some w.heap.size)) (w.alloc (.map #[] 0)):=fun w=>by simp[Instr.makeMap]
 go_enter Tryz.func83,Tryz.ntmps83;go_upto_region 2 with (fail);clear hmm;have HM0:kU ak ((w.alloc (.map #[] 0)).alloc (.cells #[.map (some w.heap.size)] 196)) w.heap.size (Xa []):=((kU.new w).ext (aj (Below.refl _ _) _)).congr (fun k=>by simp[Xa]);have J0:aG ((w.alloc (.map #[] 0)).alloc (.cells #[.map (some w.heap.size)] 196)) (w.heap.size+1) 196 #[.map (some w.heap.size)]:=aG.bC _ _ _ (by simp);have hx0:Ext w ((w.alloc (.map #[] 0)).alloc (.cells #[.map (some w.heap.size)] 196)):=aj (aj (Below.refl _ _) _) _;generalize (w.alloc (.map #[] 0)).alloc (.cells #[.map (some w.heap.size)] 196)=W0 at HM0 J0 hx0⊢;have h51:w.heap.size≤w.heap.size+1:=by omega
 generalize hg5:w.heap.size+1=g5 at J0 h51⊢;clear hg5;obtain⟨gm,hgm⟩:∃k,k=w.heap.size:=⟨_,rfl⟩;have HGM:=Lib.hid hgm;rw[←hgm]at HM0 J0⊢;clear hgm;have hgw:w.heap.size≤gm:=by have:=HGM.out;omega
 go_wp2;go_loopw [11] (fun i wr=>∃k:Nat,k≤bn∧i=.int .i64 k∧Hid (kU ak wr gm (Xa (b.take k)))∧Hid (aG wr g5 196 #[.map (some gm)])∧Ext w wr) (fun i _=>bn-(intOf i).toNat)
 case atStart=>exact⟨0,Nat.zero_le _,rfl,Lib.hid HM0,Lib.hid J0,hx0⟩
 case round =>
  clear HM0 J0 hx0;obtain⟨k,hk,rfl,HM,HJ,hx⟩:=hrel;by_cases hkb:k<bn
  ·obtain⟨bb,oo,hz,hA,hbl,hc⟩:=RA.range bg (HB.out.below hx) hkb;have htk:b.take (k+1)=b.take k++[b[k]]:=List.take_succ_eq_append_getElem hz;generalize b[k]=x at hc htk;obtain⟨P,hP⟩:∃P,(ak x).toArray=P:=⟨_,rfl⟩;obtain⟨Cj,hPl,hP1⟩:=FQ x P hP;have hkz:(k:Int)<(bn:Int):=by omega
   have qN:=Lib.hid hc;have HTK:=Lib.hid htk;have oH:=Lib.hid hP;have ug:=Lib.hid Cj;have wV:=Lib.hid hP1;subst hA;clear hc htk hP Cj hPl hP1 hz;have KX:=aG.new wr 75 P;have hx1:Ext wr (wr.alloc (.cells P 75)):=aj (Below.refl _ _) _;go_upto_region 5 with (first | (refine ay rfl _ _ rfl bb (oo+k*6) rfl P (ak x) oH.out _ qN.out Tryz.underlying75 rfl l9 ?_) | (refine aS rfl 75 _ _ rfl _ P rfl rfl (by rw[ug.out];exact l9) (by rw[ug.out];rfl) wV.out ?_));generalize wr.heap.size=g7 at KX⊢;generalize wr.alloc (.cells P 75)=W4 at KX hx1⊢;have hm4:=HM.out.ext hx1;have hj4:=HJ.out.ext hx1;have hxw:=Ext.trans hx hx1;obtain⟨W5,hu,hm5,hg5⟩:=hm4.update NU Tryz.underlying196 x P oH.out.symm (.bool true);have hm6:=hm5.congr (Tj (b.take k) x);rw[←HTK.out]at hm6;have hj5:=hj4.grown hg5 (fun e=>by injection e with e;exact hm4.ne_blk hj4 e);have hx5:Ext w W5:=hxw.grown hg5 (Below.size hxw) (fun q e=>by injection e with e;omega);have HU:=Lib.hid hu;have HM5:=Lib.hid hm6;have HJ5:=Lib.hid hj5;have WM:=Lib.hid KX;have c0:W4.cell? ⟨g5,0,none⟩=some (.map (some gm)):=hj4.cell 0;clear hm4 hj4 hu hm5 hg5 hm6 hj5 KX hx1 hx hxw HM HJ;go_wp2_with (first | (refine ay rfl _ _ rfl g7 0 rfl P (ak x) oH.out _ (aG.range WM.out (ak x) (by rw[←oH.out])) Tryz.underlying75 rfl l9 ?_) | (refine sG rfl _ _ _ _ rfl rfl rfl rfl HU.out ?_));go_roundw
   case rel=>exact⟨k+1,by omega,by go_num,HM5,HJ5,hx5⟩
   case measure=>simp[intOf];omega
  ·have hkz:¬(k:Int)<(bn:Int):=by omega
   have htk:b.take k=b:=List.take_of_length_le (by rw[Qu.out];omega);have hm:=HM.out;rw[htk]at hm;have Ce:=Lib.hid hm;have hcl:=Lib.hid (OD a A an ac wr (aB HA.out hx) hn);clear htk hm HM;go_wp2_with fail;refine hcl.out.mono ?_;rintro e W2 ⟨⟨v,rfl,hown⟩,hy⟩;have hm:=Ce.out.ext hy;have J:=HJ.out.ext hy;have hlen:=HA.out.len;have RQ:Hid (Calls Tryz.prog 136 #[v,.func (.func 138) #[] #[.pointer (some ⟨g5,0,none⟩)]] W2 fun e w'=>(∃A' c',e=.returned (.slice A' (fC a b).length c')∧RA ak 6 w' w'.heap.size A' (fC a b).length c' (fC a b))∧Ext wr w'):=Lib.hid (by
    rcases hown.2 with ⟨rfl,h0⟩ | ⟨g,cap,cur,rfl,hbg,hgg,r⟩
    ·obtain rfl:a=[]:=List.eq_nil_of_length_eq_zero h0;refine (Ir 138 #[.pointer (some ⟨g5,0,none⟩)] W2).mono ?_;rintro e w' ⟨rfl,hy2⟩;exact⟨⟨none,0,rfl,⟨⟨by simp[fC],fun h=>by simp[fC]at h⟩,rfl,Nat.zero_le _,Nat.zero_le _,by simp[fC]⟩⟩,Ext.trans hy hy2⟩
    ·have hrow:aW ak 6 wr.heap.size 75 g a.length cap W2 a:=⟨rfl,hown⟩;refine (Kt (fun x=>decide (x∈b)) 138 #[.pointer (some ⟨g5,0,none⟩)] (enters_of Tryz.func138 (by kernel_rfl) rfl) wr.heap.size g a.length cap a W2 hrow (by omega) (fun x W hu=>Xc x g5 gm b W (J.grown hu (fun e=>bQ hown J (by decide) e.symm)) (hm.keep (hu.block gm hm.lt (fun e=>hm.ne_own hown e.symm))))).mono ?_;rintro e w' ⟨rfl,hr,hg⟩;have hle:(fC a b).length≤a.length:=List.length_filter_le _ _;exact⟨⟨_,_,rfl,aW.ra hr (by omega)⟩,hy.grown hg (Below.size hy) (fun q e=>by injection e with e;omega)⟩)
   clear hown hy hm J Ce HJ hcl;go_wp2_with fail;refine RQ.out.mono ?_;rintro e W3 ⟨⟨A',c',rfl,hra⟩,hy⟩;have HR:=Lib.hid hra;have HY:=Lib.hid (Ext.trans hx hy);clear hra hy hx RQ;go_wp2;go_ret;exact⟨⟨_,_,rfl,HR.out⟩,HY.out⟩
def sH (sats:List St) (aK:List iD) (l:List fE) (sp:iO) (x y:Int):Option (List bP×List bP):=match bU sats aK l sp x,bU sats aK l sp y with
 |some a,some b=>some (fC a b,fC b a)
 |_,_=>none
def Tm (r:Option (List bP×List bP)) (w:World) (e:Ending) (w':World):Prop:=match r with
 |none=>e=.returned (.tuple #[.slice none 0 0,.slice none 0 0,.int .i64 360])∧Ext w w'
 |some (p,q)=>(∃A c B d,e=.returned (.tuple #[.slice A p.length c,.slice B q.length d,.int .i64 0])∧RA ak 6 w' w'.heap.size A p.length c p∧RA ak 6 w' w'.heap.size B q.length d q)∧Ext w w'
theorem kV {sats:List St} {aK:List iD} {l:List fE} {sp:iO} {kn:Int} {o:List bP} (h:bU sats aK l sp kn=some o):o.length≤64:=by
 unfold bU at h
 split at h
 ·split at h
  ·cases h
  ·split at h
   ·injection h with h;rw[←h,cu];assumption
   ·cases h
 ·cases h
set_option maxRecDepth 100000 in
set_option maxHeartbeats 2000000 in
theorem Iu (sats:List St) (aK:List iD) (l:List fE) (SA TA A:Option Addr) (sn sc tn tc un uc:Nat) (a b x y:Int) (w:World) (hS:RA aC 21 w w.heap.size SA sn sc sats) (hT:RA bJ 6 w w.heap.size TA tn tc aK) (hU:RA aI 10 w w.heap.size A un uc l) :
  Calls Tryz.prog 31 #[.slice SA sn sc,.slice TA tn tc,.slice A un uc,.agg #[.int .i64 a,.int .i64 b],.int .i64 x,.int .i64 y] w (Tm (sH sats aK l ⟨a,b⟩ x y) w):=by
 have hP:=fun (W:World) (hx:Ext w W) (k:Int)=>lM sats aK l SA TA A sn sc tn tc un uc a b k W (aB hS hx) (aB hT hx) (aB hU hx);have HP:=Lib.hid hP;obtain⟨R,hR⟩:∃R,R=sH sats aK l ⟨a,b⟩ x y:=⟨_,rfl⟩;rw[←hR];unfold sH at hR;have h1:=hP w (Below.refl _ _) x;clear h1;obtain⟨p,hp⟩:∃p,p=bU sats aK l ⟨a,b⟩ x:=⟨_,rfl⟩;obtain⟨q,hq⟩:∃q,q=bU sats aK l ⟨a,b⟩ y:=⟨_,rfl⟩;rw[←hp,←hq]at hR;have H1:Hid (∀W,Ext w W→Calls Tryz.prog 15 #[.slice SA sn sc,.slice TA tn tc,.slice A un uc,.agg #[.int .i64 a,.int .i64 b],.int .i64 x] W (pJ p W)):=Lib.hid (by rw[hp];exact fun W hx=>hP W hx x);have H2:Hid (∀W,Ext w W→Calls Tryz.prog 15 #[.slice SA sn sc,.slice TA tn tc,.slice A un uc,.agg #[.int .i64 a,.int .i64 b],.int .i64 y] W (pJ q W)):=Lib.hid (by rw[hq];exact fun W hx=>hP W hx y);have uQ:Hid (∀o,p=some o→o.length≤64):=Lib.hid (fun o h=>kV (hp.symm.trans h));have O4:Hid (∀o,q=some o→o.length≤64):=Lib.hid (fun o h=>kV (hq.symm.trans h));have HR:=Lib.hid hR;have J:=aG.new w 32 #[.int .i64 a,.int .i64 b];have hx0:Ext w (w.alloc (.cells #[.int .i64 a,.int .i64 b] 32)):=aj (Below.refl _ _) _;clear hP hS hT hU hp hq hR HP;go_enter Tryz.func31,Tryz.ntmps31;go_upto_region 1 with (fail);generalize w.alloc (.cells #[.int .i64 a,.int .i64 b] 32)=W0 at J hx0⊢;generalize w.heap.size=g at J⊢;have s0:W0.cell? ⟨g,0,none⟩=some (.int .i64 a):=J.cell 0;have s1:W0.cell? ⟨g,1,none⟩=some (.int .i64 b):=J.cell 1;go_wp2_with fail;refine (H1.out W0 hx0).mono ?_;clear s0 s1 H1;intro e W1 he;have hy:Ext W0 W1:=by cases p with
  |none=>exact he.2
  |some o=>exact he.2
 obtain⟨v1,e1,hv1,hf1⟩:∃v1 e1,e=.returned (.tuple #[v1,.int .i64 e1])∧((p=none∧v1=.slice none 0 0∧e1=360)∨∃o c B,p=some o∧v1=.slice B o.length c∧e1=0∧RA ak 6 W1 W1.heap.size B o.length c o):=by
  cases p with
  |none=>exact⟨_,_,he.1,.inl ⟨rfl,rfl,rfl⟩⟩
  |some o =>
   obtain⟨⟨v,h1,h2⟩,h3⟩:=he;obtain⟨B,c,rfl,_,_⟩:=aX h2;exact⟨_,_,h1,.inr ⟨o,c,B,rfl,rfl,rfl,RA.d_ h2 rfl (by have:=uQ.out o rfl;omega)⟩⟩
 subst hv1;have hx1:=Ext.trans hx0 hy;have J1:=J.ext hy;have s0:W1.cell? ⟨g,0,none⟩=some (.int .i64 a):=J1.cell 0;have s1:W1.cell? ⟨g,1,none⟩=some (.int .i64 b):=J1.cell 1;have YT:=Lib.hid hf1;clear he hy hx0 J J1 hf1;go_wp2_with fail;refine (H2.out W1 hx1).mono ?_;clear s0 s1 H2;intro e W2 he;have hy:Ext W1 W2:=by cases q with
  |none=>exact he.2
  |some o=>exact he.2
 obtain⟨v2,e2,hv2,hf2⟩:∃v2 e2,e=.returned (.tuple #[v2,.int .i64 e2])∧((q=none∧v2=.slice none 0 0∧e2=360)∨∃o c B,q=some o∧v2=.slice B o.length c∧e2=0∧RA ak 6 W2 W2.heap.size B o.length c o):=by
  cases q with
  |none=>exact⟨_,_,he.1,.inl ⟨rfl,rfl,rfl⟩⟩
  |some o =>
   obtain⟨⟨v,h1,h2⟩,h3⟩:=he;obtain⟨B,c,rfl,_,_⟩:=aX h2;exact⟨_,_,h1,.inr ⟨o,c,B,rfl,rfl,rfl,RA.d_ h2 rfl (by have:=O4.out o rfl;omega)⟩⟩
 subst hv2;have hx2:=Ext.trans hx1 hy;have EP:=Lib.hid hx2;have HY:=Lib.hid hy;have hf1:=YT.out;clear he hx1 hx2 YT hy;rcases hf1 with ⟨rfl,rfl,rfl⟩ | ⟨o1,c1,B1,rfl,rfl,rfl,hr1⟩
 ·have HR0:Hid (R=none):=Lib.hid (by rw[HR.out]);clear hf2 uQ O4 HR;go_wp2;exact bodyPost_ret (show (results _ _).run _ _=.ok (.tuple #[.slice none 0 0,.slice none 0 0,.int .i64 360]) _ by simp[results,Tryz.results31,go_sem]) rfl (by rw[HR0.out];exact⟨rfl,EP.out⟩)
 ·have HR1:=Lib.hid hr1;clear hr1;rcases hf2 with ⟨rfl,rfl,rfl⟩ | ⟨o2,c2,B2,rfl,rfl,rfl,hr2⟩
  ·have HR0:Hid (R=none):=Lib.hid (by rw[HR.out]);clear uQ O4 HR;go_wp2;exact bodyPost_ret (show (results _ _).run _ _=.ok (.tuple #[.slice none 0 0,.slice none 0 0,.int .i64 360]) _ by simp[results,Tryz.results31,go_sem]) rfl (by rw[HR0.out];exact⟨rfl,EP.out⟩)
  ·have HR0:Hid (R=some (fC o1 o2,fC o2 o1)):=Lib.hid (by rw[HR.out]);have HR2:=Lib.hid hr2;have hl1:=uQ.out o1 rfl;have hl2:=O4.out o2 rfl;have HW1:=Lib.hid (yI o1 o2 B1 B2 o1.length c1 o2.length c2 W2 (aB HR1.out HY.out) hr2 (by omega));have HW2:Hid (∀W,Ext W2 W→Calls Tryz.prog 83 #[.slice B2 o2.length c2,.slice B1 o1.length c1] W fun e w'=>(∃A' c',e=.returned (.slice A' (fC o2 o1).length c')∧RA ak 6 w' w'.heap.size A' (fC o2 o1).length c' (fC o2 o1))∧Ext W w'):=Lib.hid (fun W hx=>yI o2 o1 B2 B1 o2.length c2 o1.length c1 W (aB HR2.out hx) (aB HR1.out (Ext.trans HY.out hx)) (by omega));clear hr2 hl1 hl2 uQ O4 HR;generalize fC o1 o2=z1 at HW1 HR0;generalize fC o2 o1=z2 at HW2 HR0;go_wp2_with fail;refine HW1.out.mono ?_;rintro e W3 ⟨⟨A3,c3,rfl,hr3⟩,hx3⟩;have HR3:=Lib.hid hr3;have Nj:=Lib.hid hx3;clear hr3 hx3 HW1;go_wp2_with fail;refine (HW2.out _ Nj.out).mono ?_;rintro e W4 ⟨⟨A4,c4,rfl,hr4⟩,hx4⟩;have HR4:=Lib.hid hr4;have RJ:=Lib.hid hx4;clear hr4 hx4 HW2;go_wp2;exact bodyPost_ret (show (results _ _).run _ _=.ok (.tuple #[.slice A3 z1.length c3,.slice A4 z2.length c4,.int .i64 0]) _ by simp[results,Tryz.results31,go_sem]) rfl (by
    rw[HR0.out];exact⟨⟨_,_,_,_,rfl,aB HR3.out RJ.out,HR4.out⟩,Ext.trans EP.out (Ext.trans Nj.out RJ.out)⟩)
end Go.Proofs.YtjidhhfabfnhnaaGreat
namespace Go.Proofs.YtjidhhfabfnhnaaGreat
open Go.RowKit Go.Shelf
attribute [local go_sem] Oper.semAt_some
def sJ (a b m:Int):Bool:=decide (0≤a∧a<b∧b≤1000001∧b-a≤m)
def qP (o:iM) (a b look:Int):Bool:=dw o&&sJ a b 60&&inB look (-4) 4
theorem Tn (n lo hi:Int) (w:World) :
  Calls Tryz.prog 116 #[.int .i64 n,.int .i64 lo,.int .i64 hi] w fun e w'=>e=.returned (.bool (inB n lo hi))∧w=w':=by
 by_cases h1:lo≤n
 ·have e:inB n lo hi=decide (n≤hi):=by simp[inB,h1]
  rw[e];go_enter Tryz.func116,Tryz.ntmps116;go_wp2;go_ret;exact⟨by first | rfl | simp[*],rfl⟩
 ·have e:inB n lo hi=false:=by simp[inB,h1]
  rw[e];go_enter Tryz.func116,Tryz.ntmps116;go_wp2;go_ret;exact⟨rfl,rfl⟩
theorem Iw (a b m:Int) (w:World) :
  Calls Tryz.prog 115 #[.agg #[.int .i64 a,.int .i64 b],.int .i64 m] w fun e w'=>e=.returned (.bool (sJ a b m))∧Ext w w':=by
 by_cases h:0≤a∧a<b∧b≤1000001
 ·obtain⟨h1,h2,h3⟩:=h;have hs:sJ a b m=decide (b-a≤m):=by simp[sJ,h1,h2,h3]
  rw[hs];clear hs;go_enter Tryz.func115,Tryz.ntmps115;go_wp2;go_ret;exact⟨by simp[*],(by repeat (first | exact Below.refl _ _ | assumption | refine Below.drew ?_ | refine below_drewN ?_ _ | refine aj ?_ _ | refine Below.setCell ?_ (by first | (simp;done) | omega | (simp;omega)) _ | refine aA ?_ (by assumption)))⟩
 ·have hs:sJ a b m=false:=by
   simp only[sJ,decide_eq_false_iff_not];omega
  rw[hs];clear hs;by_cases h1:0≤a
  ·by_cases h2:a<b
   ·have h3:¬b≤1000001:=by omega
    clear h;go_enter Tryz.func115,Tryz.ntmps115;go_wp2;go_ret;exact⟨by simp[*],(by repeat (first | exact Below.refl _ _ | assumption | refine Below.drew ?_ | refine below_drewN ?_ _ | refine aj ?_ _ | refine Below.setCell ?_ (by first | (simp;done) | omega | (simp;omega)) _ | refine aA ?_ (by assumption)))⟩
   ·clear h;go_enter Tryz.func115,Tryz.ntmps115;go_wp2;go_ret;exact⟨by simp[*],(by repeat (first | exact Below.refl _ _ | assumption | refine Below.drew ?_ | refine below_drewN ?_ _ | refine aj ?_ _ | refine Below.setCell ?_ (by first | (simp;done) | omega | (simp;omega)) _ | refine aA ?_ (by assumption)))⟩
  ·clear h;go_enter Tryz.func115,Tryz.ntmps115;go_wp2;go_ret;exact⟨by simp[*],(by repeat (first | exact Below.refl _ _ | assumption | refine Below.drew ?_ | refine below_drewN ?_ _ | refine aj ?_ _ | refine Below.setCell ?_ (by first | (simp;done) | omega | (simp;omega)) _ | refine aA ?_ (by assumption)))⟩
def zeros24:Array Value:=(List.replicate 24 (Value.int .i64 0)).toArray
theorem D6:(Tryz.prog.info? 58).map (·.size)=some 1:=by kernel_rfl
theorem empty_any (w:World):Calls Tryz.prog 117 #[] w fun e w'=>∃g,e=.returned (.agg #[.slice (some ⟨g,0,none⟩) 24 24])∧w.heap.size≤g∧aG w' g 3 zeros24∧Ext w w':=by
 have hmk:∀w,(Instr.makeSlice 40 (.int .i64 24) (.int .i64 24)).run Tryz.prog w=.ok (.slice (some ⟨w.heap.size,0,none⟩) 24 24) (w.alloc (.cells zeros24 3)):=fun _=>by kernel_rfl
 go_enter Tryz.func117,Tryz.ntmps117;go_wp2;have J:aG ((w.alloc (.cells #[.slice (some ⟨w.heap.size+1,0,none⟩) 24 24] 58)).alloc (.cells zeros24 3)) w.heap.size 58 #[.slice (some ⟨w.heap.size+1,0,none⟩) 24 24]:=(aG.new _ _ _).alloc _;exact bodyPost_ret (gG Tryz.results117 _ _ w.heap.size _ rfl J _ Tryz.underlying58 rfl D6) rfl ⟨_,rfl,Nat.le_succ _,aG.bC _ _ _ (by simp),(by repeat (first | exact Below.refl _ _ | assumption | refine Below.drew ?_ | refine below_drewN ?_ _ | refine aj ?_ _ | refine Below.setCell ?_ (by first | (simp;done) | omega | (simp;omega)) _ | refine aA ?_ (by assumption)))⟩
theorem Iy (p f lo hi no tu sl a b look:Int) (w:World) :
  Calls Tryz.prog 54 #[.agg #[.int .i64 p,.int .i64 f,.int .i64 lo,.int .i64 hi,.int .i64 no,.int .i64 tu,.int .i64 sl],.agg #[.int .i64 a,.int .i64 b],.int .i64 look] w fun e w'=>e=.returned (.bool (qP ⟨p,f,lo,hi,no,tu,sl⟩ a b look))∧Ext w w':=by
 have HV:=Lib.hid (fun W=>nS p f lo hi no tu sl W);have HS:=Lib.hid (fun W=>Iw a b 60 W);have HI:=Lib.hid (fun W=>Tn look (-4) 4 W);unfold qP;generalize dw ⟨p,f,lo,hi,no,tu,sl⟩=q1 at HV⊢;generalize sJ a b 60=q2 at HS⊢;generalize inB look (-4) 4=q3 at HI⊢;have K1:aG ((w.alloc (.cells #[.int .i64 p,.int .i64 f,.int .i64 lo,.int .i64 hi,.int .i64 no,.int .i64 tu,.int .i64 sl] 51)).alloc (.cells #[.int .i64 a,.int .i64 b] 32)) (w.heap.size+1) 32 #[.int .i64 a,.int .i64 b]:=aG.bC _ _ _ (by simp);have hx0:Ext w ((w.alloc (.cells #[.int .i64 p,.int .i64 f,.int .i64 lo,.int .i64 hi,.int .i64 no,.int .i64 tu,.int .i64 sl] 51)).alloc (.cells #[.int .i64 a,.int .i64 b] 32)):=aj (aj (Below.refl _ _) _) _;go_enter Tryz.func54,Tryz.ntmps54;go_wp2_with fail;refine (HV.out _).mono ?_;rintro e W1 ⟨rfl,hy⟩;have K1:=K1.ext hy;have hx1:=Ext.trans hx0 hy;have s0:W1.cell? ⟨w.heap.size+1,0,none⟩=some (.int .i64 a):=K1.cell 0;have s1:W1.cell? ⟨w.heap.size+1,1,none⟩=some (.int .i64 b):=K1.cell 1;clear hy hx0 K1;cases q1
 ·go_wp2;go_ret;exact⟨rfl,hx1⟩
 ·go_wp2_with fail;refine (HS.out _).mono ?_;rintro e W2 ⟨rfl,hy⟩;have hx2:=Ext.trans hx1 hy;clear hy hx1 s0 s1;cases q2
  ·go_wp2;go_ret;exact⟨rfl,hx2⟩
  ·go_wp2_with fail;refine (HI.out _).mono ?_;rintro e W3 ⟨rfl,rfl⟩;go_wp2;go_ret;exact⟨rfl,hx2⟩
end Go.Proofs.YtjidhhfabfnhnaaGreat
namespace Go.Proofs.YtjidhhfabfnhnaaGreat
open Go.RowKit Go.Shelf
def SeqH {α:Type} (n:Nat) (P:Program) (g:Nat) (lb:Array Value) (encs:α→Array Value) (Kp:World→World→Prop) (G:List α→World→Prop) (S Sp:List α→Prop) (w:World):Prop :=
 ∀(l:Nat) (J Jx:List α→World→Prop) (W:World),Ext w W→AbidesFrom W.heap.size J→AbidesFrom W.heap.size Jx→(∀pre X,J pre X→G pre X) →
  (∀pre x X,J pre X→Sp (pre++[x])→YieldAt Fence.wide (n-1) P l (encs x) X fun e Y=>(e=.returned (.bool true)∧J (pre++[x]) Y∧Kp X Y)∨(e=.returned (.bool false)∧Jx (pre++[x]) Y)) →
  J [] W→CallsIn Fence.wide n P g (#[.func (.yield l) #[] #[]]++lb) W fun e Y=>(∃v,e=.returned v)∧((∃xs,S xs∧J xs Y)∨(∃pre,Sp pre∧Jx pre Y))
theorem CZ {α:Type} {n:Nat} {P:Program} {op:Operand} {ps:Array Tmp} {assign body:Code} {Q:Exit→Act→World→Prop} {a:Act} {w:World}
  (h1:1≤n) {gf:Nat} {lb:Array Value} (hg:a.eval op=.func (.func gf) #[] lb) (eg:∀args w,(callFunc gf args).run P w=.ok (.enter gf args) w)
  {encs:α→Array Value} {Kp:World→World→Prop} {G:List α→World→Prop} {S Sp:List α→Prop} (hseq:SeqH (n-1) P gf lb encs Kp G S Sp w)
  (hKt:∀ {A B C:World},Kp A B→Kp B C→Kp A C) (hKb:∀(W:World) (l:Nat) (o o':Obj),w.heap.size≤l→W.heap[l]?=some o→o.isCells=false→Kp W (W.putObj l o')) (hps:∀x,(encs x).size=ps.size)
  (I:List α→World→Prop) (Ix:Code→List α→World→Prop) (hIG:∀pre W,I pre W→G pre W) (hI:OwnFrom w.heap.size I) (hIx:∀c,OwnFrom w.heap.size (Ix c)) (h0:I [] w)
  (Ax:α→Act→World→Prop) (hAx:∀x a',OwnFrom w.heap.size (fun (_:Unit) W=>Ax x a' W))
  (hassign:∀(l:Nat) (pre:List α) (x:α) (W:World) (K:Act→World→Prop),I pre W→(∀a' W',KeepsFrom w.heap.size W W'→Kp W W'→I pre W'→Ax x a' W'→K a' W') →
   assign.wpIn (Fence.wide.inRound l) (n-1-1) P (Exit.then K (fun _ _ _=>False)) { tmps:=(ps.zip (encs x)).foldl (fun t (p,v)=>t.setIfInBounds p v) a.tmps,defers:=[] } W)
  (hbody:∀(l:Nat) (pre:List α) (x:α) (a':Act) (W:World),I pre W→Ax x a' W→Sp (pre++[x])→body.wpIn (Fence.wide.inRound l) (n-1-1) P (ownPostG w.heap.size Kp I Ix (pre++[x]) W) a' W)
  (hdone:∀(D:Nat) (xs:List α) (W:World),w.heap.size≤D→S xs→I xs W→W.heap[D]?=some (.deferred (some []))→Q .normal { a with defers:={ target:=.collected D,args:=#[] } :: a.defers } W)
  (hstop:∀(D:Nat) (c:Code) (pre:List α) (W:World),w.heap.size≤D→Sp pre→Ix c pre W→W.heap[D]?=some (.deferred (some []))→c.wpIn Fence.wide n P Q { a with defers:={ target:=.collected D,args:=#[] } :: a.defers } W) :
  (Code.rangeFunc op ps assign body).wpIn Fence.wide n P Q a w:=by
 refine wpIn_rangeFunc fun fn hfn=>?_;obtain⟨d,hd⟩:∃d,d=w.heap.size:=⟨_,rfl⟩;obtain⟨rc,hrc⟩:∃rc:LoopState→Option Code→Loop,rc=fun st pe=>{ state:=st,pending:=pe,fn,tmps:=a.tmps,params:=ps,assign,body,defers:=d }:=⟨_,rfl⟩;obtain⟨V,hV⟩:∃V,V=(w.alloc (.deferred (some []))).alloc (.loop (rc .ready none)):=⟨_,rfl⟩;have hVz:V.heap.size=d+2:=by rw[hV,World.size_alloc,World.size_alloc,hd]
 have hBV:Bk d (rc .ready none) V:=by
  subst hV hd;refine⟨?_,(Below.heap_alloc _ _ _ (by simp)).trans (World.alloc_heap_new w _)⟩;have:=World.alloc_heap_new (w.alloc (.deferred (some []))) (.loop (rc .ready none));rwa[World.size_alloc]at this
 have hIV:I [] V:=by subst hV;exact hI.alloc _ (hI.alloc _ h0)
 have hxV:Ext w V:=by subst hV;exact aj (aj (Below.refl _ _) _) _
 refine⟨d+1,[{ target:=.collected d,args:=#[] }],V,{ target:=.fn (.func gf) lb,args:=#[.func (.yield (d+1)) #[] #[]] },V,gf,#[.func (.yield (d+1)) #[] #[]]++lb,V,?_,?_,?_,?_,fun _=>h1,?_⟩
 ·have h:=run_enterLoop_outer (P:=P) (w:=w) fn a.tmps ps assign body;subst hV hrc hd;exact h
 ·simp only[resolve,hg];simp[go_sem]
 ·intro f' _;trivial
 ·simp[invoke,go_sem,eg]
 have kD:∀ {A B:World},KeepsFrom w.heap.size A B→KeepsFrom d A B:=fun h=>by rw[hd];exact h
 have Hw:∀(W:World) (r r':Loop),Bk d r W→Kp W (W.putObj (d+1) (.loop r')):=fun W r r' h=>hKb W (d+1) _ _ (by omega) h.1 rfl;have rU:∀ {β:Type} {J:β→World→Prop} (s:β) (W:World) (r r':Loop),OwnFrom w.heap.size J→Bk d r W→J s W→J s (W.putObj (d+1) (.loop r')):=fun s W r r' h hb hj=>h.putObj _ hj (by omega) hb.1 rfl;have Ae:∀ {A:World} {row:Option Nat},(∀q,row=some q→V.heap.size≤q∧∃o:Obj,A.heap[q]?=some o∧o.isWalk=true)→∀q,row=some q→w.heap.size≤q∧∃o:Obj,A.heap[q]?=some o∧o.isCells=false:=fun h q e=>by
  obtain⟨hq,o,ho,hw⟩:=h q e;exact⟨by omega,o,ho,Obj.not_cells_of_walk hw⟩
 refine (hseq (d+1) (fun pre W=>I pre W∧Bk d (rc .ready none) W) (fun pre W=>∃c,Ix c pre W∧Bk d (rc .done (some c)) W) V hxV
  (fun s A B row h hgr hr=>⟨hI s A B row h.1 hgr (Ae hr),h.2.abide (by omega) hgr hr⟩) (fun s A B row h hgr hr=>?_) (fun pre X h=>hIG pre X h.1) (fun pre x X h hlen=>?_) ⟨hIV,hBV⟩).mono ?_
 ·obtain⟨c,hc,hb⟩:=h;exact⟨c,hIx c s A B row hc hgr (Ae hr),hb.abide (by omega) hgr hr⟩
 ·obtain⟨hi,hb⟩:=h;have hy:=run_yield (P:=P) (args:=encs x) hb.1 (by rw[hrc];exact hps x);rw[hrc]at hy;refine⟨fn,_,assign,body,hy,roundIn_of_wpIn hfn (hassign _ pre x X _ hi fun a' Y hk hp hi' hax=>?_)⟩;clear hy;have hb:=hb.keeps (kD hk);refine⟨_,run_beginRound hb.1 (by rw[hrc]),?_⟩;have hb2:=hb.turn { rc .ready none with state:=.busy };have hp2:=hKt hp (Hw Y _ { rc .ready none with state:=.busy } hb);refine wpIn_mono (hbody _ pre x a' _ (rU _ Y _ _ hI hb hi') (rU (J:=fun (_:Unit) W=>Ax x a' W) () Y _ _ (hAx x a') hb hax) hlen) ?_;have fin:∀(jump:Option Code) (Z:World),KeepsFrom w.heap.size (Y.putObj (d+1) (.loop { rc .ready none with state:=.busy })) Z →
    (Instr.endRound (d+1) jump).run P Z=.ok (.bool jump.isNone) (Z.putObj (d+1) (.loop (rc (if jump.isNone then .ready else .done) jump)))∧Bk d { rc .ready none with state:=.busy } Z:=fun jump Z hk=>by
   have hb3:=hb2.keeps (kD hk);have h:=run_endRound (P:=P) jump hb3.1;rw[hrc]at h⊢;exact⟨h,by rw[hrc]at hb3;exact hb3⟩
  intro e a3 Z hp3
  match e,hp3 with
  |.normal,⟨hk,hkp,hi3⟩ =>
   obtain⟨hr,hb3⟩:=fin none Z hk;exact⟨_,_,hr,.inl ⟨rfl,⟨rU _ Z _ _ hI hb3 hi3,hb3.turn _⟩,hKt hp2 (hKt hkp (Hw Z _ _ hb3))⟩⟩
  |.ret,⟨hk,hi3⟩ =>
   obtain⟨hr,hb3⟩:=fin (some .ret) Z hk;exact⟨_,_,hr,.inr ⟨rfl,.ret,rU _ Z _ _ (hIx _) hb3 hi3,hb3.turn _⟩⟩
  |.exit id,⟨hk,hi3⟩ =>
   obtain⟨hr,hb3⟩:=fin (some (.exit id)) Z hk;exact⟨_,_,hr,.inr ⟨rfl,.exit id,rU _ Z _ _ (hIx _) hb3 hi3,hb3.turn _⟩⟩
  |.goto t,⟨hk,hi3⟩ =>
   obtain⟨hr,hb3⟩:=fin (some (.goto t)) Z hk;exact⟨_,_,hr,.inr ⟨rfl,.goto t,rU _ Z _ _ (hIx _) hb3 hi3,hb3.turn _⟩⟩
 ·rintro e Z ⟨⟨v,rfl⟩,⟨xs,hS,hi,hb⟩ | ⟨pre,hSp,c,hi,hb⟩⟩
  ·have h:=run_endLoop (P:=P) hb.1 (by rw[hrc];simp);rw[hrc]at h;exact⟨none,_,h,hdone d xs _ (by omega) hS (rU _ Z _ _ hI hb hi) (hb.turn _).2⟩
  ·have h:=run_endLoop (P:=P) hb.1 (by rw[hrc];simp);rw[hrc]at h;exact⟨some c,_,h,hstop d c pre _ (by omega) hSp (rU _ Z _ _ (hIx c) hb hi) (hb.turn _).2⟩
end Go.Proofs.YtjidhhfabfnhnaaGreat
namespace Go.Proofs.YtjidhhfabfnhnaaGreat
open Go.RowKit Go.Shelf
attribute [local go_sem] Oper.semAt_some
def eu (sl:Int):List Int:=(List.range (2*sl+1).toNat).map (fun i:Nat=>-sl+(i:Int))
theorem Bh (sl:Int) (k:Nat) (hk:k≤(2*sl+1).toNat):(eu sl).take k=(List.range k).map (fun i:Nat=>-sl+(i:Int)):=by
 unfold eu;rw[←List.map_take,List.take_range,Nat.min_eq_left hk]
def Xd (x:Int):Array Value:=#[.int .i64 x]
set_option maxRecDepth 100000 in
set_option maxHeartbeats 2000000 in
theorem Xe (ex:Nat→Prop) (B1 B0 bo:Nat) (sl:Int) (P:Array Value) (G:List Int→World→Prop) (n:Nat) (w:World) (hB1:B1≤B0) (hB0:B0≤w.heap.size)
  (ko:aG w bo 51 P) (p6:P[6]?=some (.int .i64 sl)) (ho:¬ex bo∧bo<B0) (h0:0≤sl) (h10:sl≤10) :
  SeqH n Tryz.prog 152 #[.pointer (some ⟨bo,0,none⟩)] Xd (iW ex B1 B0) G (fun xs=>xs=eu sl) (fun pre=>pre <+: eu sl) w:=by
 intro ly J Jx W hW hJ hJx hJG hY hJ0;refine callsIn_of_wp Tryz.func152 rfl trivial ?_ rfl;simp only[Tryz.ntmps152,List.size_toArray,List.length_cons,List.length_nil,Nat.reduceAdd,Nat.reduceSub,Array.replicate_succ,Array.replicate_zero,List.push_toArray,List.append_toArray,List.nil_append,List.cons_append];have HY:=Lib.hid hY;have HJ:=Lib.hid hJ;have hKW:iW ex B1 B0 w W:=iW.ext hW hB1 hB0;have hcell:∀(W2:World),iW ex B1 B0 w W2→W2.cell? ⟨bo,6,none⟩=some (.int .i64 sl):=fun _ hk=>by rw[(hk.kE ko ho).cell];exact p6
 have c6:W.cell? ⟨bo,6,none⟩=some (.int .i64 sl):=hcell _ hKW;have NM:=Lib.hid hcell;have hwn:IntKind.i64.wrap (-sl) = -sl:=IntWalk.i64_in _ (by omega);clear hY hJ hJx hJG hcell
 gi_wp2
 gi_loopw [3] (fun v wr=>∃k:Nat,v=.int .i64 (-sl+k)∧k≤(2*sl+1).toNat∧Hid (J ((eu sl).take k) wr)∧iW ex B1 B0 w wr) (fun v _=>(sl+1-intOf v).toNat)
 case atStart=>exact⟨0,by simp,Nat.zero_le _,Lib.hid (by simpa using hJ0),hKW⟩
 case round =>
  clear hKW c6 hJ0;obtain⟨k,rfl,hk,HJp,hK⟩:=hrel;have c6:=NM.out _ hK;by_cases hlt : -sl+(k:Int)≤sl
  ·have hk1:k+1≤(2*sl+1).toNat:=by omega
   have hlen:(eu sl).length=(2*sl+1).toNat:=by simp[eu]
   have hnx:(eu sl).take k++[-sl+(k:Int)]=(eu sl).take (k+1):=by
    rw[Bh sl k (by omega),Bh sl (k+1) hk1,List.range_succ,List.map_append];rfl
   obtain⟨fn,tmps,assign,body,hy,hR⟩:=HY.out _ (-sl+(k:Int)) _ HJp.out (by rw[hnx];exact List.take_prefix _ _);rw[hnx]at hR;dsimp only[Xd]at hy;have hpre:(eu sl).take (k+1) <+: eu sl:=List.take_prefix _ _;have zK:=Lib.hid hpre;have hw1:IntKind.i64.wrap (-sl+(k:Int)+1) = -sl+(k:Int)+1:=IntWalk.i64_in _ (by omega);clear hlen hnx hpre HJp
   gi_wp2_with fail
   refine⟨(fun h=>by cases h),hR.mono ?_⟩;rintro e W7 (⟨rfl,WJ,hk7⟩ | ⟨rfl,KO⟩)
   ·have hK7:=hK.trans hk7;have HJ7:=Lib.hid WJ;clear hy hR hk7 hK c6 WJ
    gi_wp2
    go_roundw
    case rel=>exact⟨k+1,by rw[show -sl+((k+1:Nat):Int) = -sl+k+1 by omega],hk1,HJ7,hK7⟩
    case measure=>simp[intOf];omega
   ·gi_wp2
    refine bodyPost_ret (results_none rfl _ _ _) rfl ?_;exact⟨⟨_,rfl⟩,.inr ⟨_,zK.out,KO⟩⟩
  ·have hkk:k=(2*sl+1).toNat:=by omega
   have hall:(eu sl).take k=eu sl:=List.take_of_length_le (by simp[eu];omega);have HA:=Lib.hid hall;clear hall hkk
   gi_wp2
   go_end0;exact⟨⟨_,rfl⟩,.inl (by have h:=HJp.out;rwa[HA.out]at h)⟩
end Go.Proofs.YtjidhhfabfnhnaaGreat
namespace Go.Proofs.YtjidhhfabfnhnaaGreat
open Go.RowKit Go.Shelf
attribute [local go_sem] Oper.semAt_some
def snAt (o:iM) (look la t:Int):Int×Int×Int:=((qX o (t-la) / 1000+look) % 48,rowP o (t-la) / 1000,t)
def NW (o:iM) (look la a:Int) (n:Nat):List (Int×Int×Int):=(List.range n).map (fun i:Nat=>snAt o look la (a+(i:Int)))
abbrev Lp:={ s:Int×Int×Int // 0≤s.1∧s.1≤47∧0≤s.2.1∧s.2.1≤23 }
def lD (s:Int×Int×Int):List Value:=[.int .i64 s.1,.int .i64 s.2.1,.int .i64 s.2.2]
def Xf (s:Lp):Array Value:=#[.agg (lD s.1).toArray]
theorem Xg {o:iM} {t la:Int} (ho:dw o=true) (h1:0≤t) (h2:t≤1000000) (h3 : -10≤la) (h4:la≤10) :
  Nb o t la=some ⟨qX o (t-la) / 1000,rowP o (t-la) / 1000⟩∧0≤qX o (t-la) / 1000∧qX o (t-la) / 1000≤47∧0≤rowP o (t-la) / 1000∧rowP o (t-la) / 1000≤23:=by
 have hb:∀n lo hi:Int,inB n lo hi=true↔lo≤n∧n≤hi:=fun n lo hi=>by simp[inB]
 have h5:(inB t 0 1000000&&inB la (-10) 10&&dw o)=true:=by simp[hb,ho];omega
 have ho2:=ho;simp only[dw,Bool.and_eq_true,hb,decide_eq_true_eq]at ho2;have hr:=EF o (t-la) (by omega) (by omega) (by omega);refine⟨by rw[Nb,if_pos h5],?_,?_,?_,?_⟩
 ·unfold qX;omega
 ·unfold qX;omega
 ·omega
 ·omega
theorem Tq (O S:Array Value) (look la:Int) (w:World) :
  Calls Tryz.prog 118 #[.agg O,.agg S,.int .i64 look,.int .i64 la] w fun e w'=>e=.returned (.func (.func 151) #[] #[.pointer (some ⟨w.heap.size+1,0,none⟩),.pointer (some ⟨w.heap.size,0,none⟩),.pointer (some ⟨w.heap.size+1+1+1,0,none⟩),.pointer (some ⟨w.heap.size+1+1,0,none⟩)]) ∧
   w'=(((w.alloc (.cells O 51)).alloc (.cells S 32)).alloc (.cells #[.int .i64 look] 3)).alloc (.cells #[.int .i64 la] 3):=by
 go_enter Tryz.func118,Tryz.ntmps118;go_wp2;go_ret;exact⟨rfl,rfl⟩
set_option maxRecDepth 100000 in
set_option maxHeartbeats 2000000 in
theorem Xh (ex:Nat→Prop) (B1 B0 bs bo bl bk:Nat) (p f lo hi no tu sl a b look la:Int) (G:List Lp→World→Prop) (n:Nat) (w:World) (hB1:B1≤B0) (hB0:B0≤w.heap.size)
  (ks:aG w bs 32 #[.int .i64 a,.int .i64 b]) (ko:aG w bo 51 #[.int .i64 p,.int .i64 f,.int .i64 lo,.int .i64 hi,.int .i64 no,.int .i64 tu,.int .i64 sl]) (kl:aG w bl 3 #[.int .i64 la]) (kk:aG w bk 3 #[.int .i64 look])
  (es:¬ex bs∧bs<B0) (eo:¬ex bo∧bo<B0) (el:¬ex bl∧bl<B0) (ek:¬ex bk∧bk<B0) (hv:qP ⟨p,f,lo,hi,no,tu,sl⟩ a b look=true) (hla : -10≤la∧la≤10) :
  aac n Tryz.prog 151 #[.pointer (some ⟨bs,0,none⟩),.pointer (some ⟨bo,0,none⟩),.pointer (some ⟨bl,0,none⟩),.pointer (some ⟨bk,0,none⟩)] Xf (iW ex B1 B0) G (fun xs=>xs.map (·.1)=NW ⟨p,f,lo,hi,no,tu,sl⟩ look la a (b-a).toNat) (fun pre=>pre.map (·.1) <+: NW ⟨p,f,lo,hi,no,tu,sl⟩ look la a (b-a).toNat) (NW ⟨p,f,lo,hi,no,tu,sl⟩ look la a (b-a).toNat).length w:=by
 intro ly J Jx W hW hJ hJx hJG hY hJ0;simp only[qP,sJ,Bool.and_eq_true,decide_eq_true_eq]at hv;obtain⟨⟨ho,h1,h2,h3,h4⟩,hlk⟩:=hv;have hlk2 : -4≤look∧look≤4:=by simpa [inB]using hlk
 have HO:=Lib.hid ho;refine callsIn_of_wp Tryz.func151 rfl trivial ?_ rfl;simp only[Tryz.ntmps151,List.size_toArray,List.length_cons,List.length_nil,Nat.reduceAdd,Nat.reduceSub,Array.replicate_succ,Array.replicate_zero,List.push_toArray,List.append_toArray,List.nil_append,List.cons_append];have HY:=Lib.hid hY;have HJ:=Lib.hid hJ;have hKW:iW ex B1 B0 w W:=iW.ext hW hB1 hB0;have hw0:w.heap.size≤W.heap.size:=hW.size;have hWs:W.heap.size≤W.heap.size:=Nat.le_refl _;have c0:W.cell? ⟨bs,0,none⟩=some (.int .i64 a):=(hKW.kE ks es).cell 0;have Gp:Hid (([]:List Lp).map (·.1)=NW ⟨p,f,lo,hi,no,tu,sl⟩ look la a 0):=Lib.hid rfl;have Ot:=Lib.hid hJ0;clear hY hJ hJx hJG hJ0 ho hlk
 gi_wp2
 gi_loopw [6] (fun v wr=>∃(k:Nat) (pre:List Lp),v=.int .i64 (a+k)∧k≤(b-a).toNat∧Hid (pre.map (·.1)=NW ⟨p,f,lo,hi,no,tu,sl⟩ look la a k)∧Hid (J pre wr)∧iW ex B1 B0 w wr∧W.heap.size≤wr.heap.size) (fun v _=>(b-intOf v).toNat)
 case atStart=>exact⟨0,[],by simp,Nat.zero_le _,Gp,Ot,hKW,hWs⟩
 case round =>
  clear Gp Ot hKW c0;obtain⟨k,pre,rfl,hk,HS,HJp,hK,hsz⟩:=hrel;have c1:wr.cell? ⟨bs,1,none⟩=some (.int .i64 b):=(hK.kE ks es).cell 1;by_cases hlt:a+(k:Int)<b
  ·have hk1:k+1≤(b-a).toNat:=by omega
   have Ko:=hK.kE ko eo;have l0:wr.cell? ⟨bl,0,none⟩=some (.int .i64 la):=(hK.kE kl el).cell 0;have o0:wr.cell? ⟨bo,0,none⟩=some (.int .i64 p):=Ko.cell 0;have o1:wr.cell? ⟨bo,1,none⟩=some (.int .i64 f):=Ko.cell 1;have o2:wr.cell? ⟨bo,2,none⟩=some (.int .i64 lo):=Ko.cell 2;have o3:wr.cell? ⟨bo,3,none⟩=some (.int .i64 hi):=Ko.cell 3;have o4:wr.cell? ⟨bo,4,none⟩=some (.int .i64 no):=Ko.cell 4;have o5:wr.cell? ⟨bo,5,none⟩=some (.int .i64 tu):=Ko.cell 5;have o6:wr.cell? ⟨bo,6,none⟩=some (.int .i64 sl):=Ko.cell 6;obtain⟨hat,x1,x2,y1,y2⟩:=Xg (t:=a+k) (la:=la) HO.out (by omega) (by omega) hla.1 hla.2;have hsn:snAt ⟨p,f,lo,hi,no,tu,sl⟩ look la (a+k)=((qX ⟨p,f,lo,hi,no,tu,sl⟩ (a+k-la) / 1000+look) % 48,rowP ⟨p,f,lo,hi,no,tu,sl⟩ (a+k-la) / 1000,a+k):=rfl;have hA:=fun W'=>EG p f lo hi no tu sl (a+k) la W';simp only[hat,Yr]at hA;generalize qX ⟨p,f,lo,hi,no,tu,sl⟩ (a+k-la) / 1000=cx at hA hsn x1 x2;generalize rowP ⟨p,f,lo,hi,no,tu,sl⟩ (a+k-la) / 1000=cy at hA hsn y1 y2;have HA:=Lib.hid hA;have Ai:=Lib.hid hsn;have hw1:IntKind.i64.wrap (cx+look)=cx+look:=IntWalk.i64_in _ (by omega);have hw2:IntKind.i64.wrap (cx+look+48)=cx+look+48:=IntWalk.i64_in _ (by omega);have hw3:IntKind.i64.wrap (a+(k:Int)+1)=a+(k:Int)+1:=IntWalk.i64_in _ (by omega);clear hat hsn hA Ko
   gi_wp2_with fail
   refine⟨trivial,(fun h=>by cases h),(callsIn_wide.2 (HA.out _)).mono ?_⟩;rintro e W2 ⟨rfl,hb2⟩;have hK2:=hK.trans (iW.ext hb2 hB1 (by omega));have HJ2:Hid (J pre W2):=Lib.hid (HJ.out _ _ _ none HJp.out (iZ hb2) (fun r e=>by cases e));have hsz2:W.heap.size≤W2.heap.size:=Nat.le_trans hsz hb2.size;have k0:W2.cell? ⟨bk,0,none⟩=some (.int .i64 look):=(hK2.kE kk ek).cell 0;have hkx:∀(W3:World),Ext W2 W3→W3.cell? ⟨bk,0,none⟩=some (.int .i64 look):=fun W3 hx=>ah hx k0;have hkx0:=hkx (W2.alloc (.cells #[.int .i64 0,.int .i64 0] 69)) (aj (Below.refl _ _) _);have hkx1:=hkx (W2.alloc (.cells #[.int .i64 cx,.int .i64 cy] 69)) (aj (Below.refl _ _) _);clear hK hb2 c1 o0 o1 o2 o3 o4 o5 o6 l0 HA HJp hsz;have hlen:(NW ⟨p,f,lo,hi,no,tu,sl⟩ look la a (b-a).toNat).length=(b-a).toNat:=by simp[NW]
   have hpl:pre.length=k:=by
    have h:=congrArg List.length HS.out;simpa [NW]using h
   have hbd:0≤(cx+look) % 48∧(cx+look) % 48≤47∧0≤cy∧cy≤23:=by omega
   have hx3:Ext W2 (W2.alloc (.cells #[.int .i64 ((cx+look) % 48),.int .i64 cy] 69)):=aj (Below.refl _ _) _;have hJ3:J pre (W2.alloc (.cells #[.int .i64 ((cx+look) % 48),.int .i64 cy] 69)):=HJ.out _ _ _ none HJ2.out (iZ hx3) (fun r e=>by cases e);have hK3:=hK2.trans (iW.ext hx3 hB1 (by omega));have hsz3:=Nat.le_trans hsz2 hx3.size;obtain⟨fn,tmps,assign,body,hy,hR⟩:=HY.out pre ⟨((cx+look) % 48,cy,a+k),hbd⟩ _ hJ3 (by rw[hlen];omega);dsimp only[Xf,lD]at hy;have hnew:(pre++[(⟨((cx+look) % 48,cy,a+k),hbd⟩:Lp)]).map (·.1)=NW ⟨p,f,lo,hi,no,tu,sl⟩ look la a (k+1):=by
    rw[List.map_append,HS.out];unfold NW;rw[List.range_succ,List.map_append];simp only[List.map_cons,List.map_nil,Ai.out]
   have hpre:(pre++[(⟨((cx+look) % 48,cy,a+k),hbd⟩:Lp)]).map (·.1) <+: NW ⟨p,f,lo,hi,no,tu,sl⟩ look la a (b-a).toNat:=by
    rw[hnew];unfold NW;have h:=List.take_prefix (k+1) (List.range (b-a).toNat);rw[List.take_range,Nat.min_eq_left hk1]at h;exact h.map _
   have HN:=Lib.hid hnew;have zK:=Lib.hid hpre;clear hlen hpl hnew hpre HJ2 hJ3 hx3 hK2 hsz2 k0 hkx Ai
   gi_wp2_with fail
   refine⟨(fun h=>by cases h),hR.mono ?_⟩;rintro e W7 (⟨rfl,WJ,hk7⟩ | ⟨rfl,KO⟩)
   ·have hK7:=hK3.trans hk7;have Fg:W.heap.size≤W7.heap.size:=Nat.le_trans hsz3 hk7.low.size;have HJ7:=Lib.hid WJ;clear hy hR hk7 hK3 WJ hkx0 hkx1 hsz3
    gi_wp2
    go_roundw
    case rel=>exact⟨k+1,_,by rw[show a+((k+1:Nat):Int)=a+k+1 by omega],hk1,HN,HJ7,hK7,Fg⟩
    case measure=>simp[intOf];omega
   ·gi_wp2
    refine bodyPost_ret (results_none rfl _ _ _) rfl ?_;exact⟨⟨_,rfl⟩,.inr ⟨_,zK.out,KO⟩⟩
  ·have hkk:k=(b-a).toNat:=by omega
   subst hkk;have hend:=HS.out;have HE:=Lib.hid hend;clear hend
   gi_wp2
   go_end0;exact⟨⟨_,rfl⟩,.inl ⟨pre,HE.out,HJp.out⟩⟩
end Go.Proofs.YtjidhhfabfnhnaaGreat
namespace Go.Proofs.YtjidhhfabfnhnaaGreat
open Go.RowKit Go.Shelf
attribute [local go_sem] Oper.semAt_some
theorem FT (ex:Nat→Prop) (B1 bs bo bl bk:Nat) (p f lo hi no tu sl fa tb look la:Int) (n:Nat) (hn:1≤n) {w:World} (hB1:B1≤w.heap.size)
  (ks:aG w bs 32 #[.int .i64 fa,.int .i64 tb]) (ko:aG w bo 51 #[.int .i64 p,.int .i64 f,.int .i64 lo,.int .i64 hi,.int .i64 no,.int .i64 tu,.int .i64 sl]) (kl:aG w bl 3 #[.int .i64 la]) (kk:aG w bk 3 #[.int .i64 look])
  (es:¬ex bs) (eo:¬ex bo) (el:¬ex bl) (ek:¬ex bk) (hv:qP ⟨p,f,lo,hi,no,tu,sl⟩ fa tb look=true) (hla : -10≤la∧la≤10)
  {op:Operand} {p1:Nat} {assign body:Code} {Q:Exit→Act→World→Prop} {a:Act} (hg:a.eval op=.func (.func 151) #[] #[.pointer (some ⟨bs,0,none⟩),.pointer (some ⟨bo,0,none⟩),.pointer (some ⟨bl,0,none⟩),.pointer (some ⟨bk,0,none⟩)])
  (I:List Lp→World→Prop) (hI:OwnFrom w.heap.size I) (hIs:∀pre W,I pre W→w.heap.size≤W.heap.size) (h0:I [] w)
  (Sm:Array Value→Lp→Nat→Array Value)
  (hassign:∀(ly:Nat) (x:Lp) (W:World) (K:Act→World→Prop),K { tmps:=Sm a.tmps x W.heap.size,defers:=[] } (W.alloc (.cells (lD x.1).toArray 178)) →
   assign.wpIn (Fence.wide.inRound ly) (n-1-1) Tryz.prog (Exit.then K (fun _ _ _=>False)) { tmps:=a.tmps.setIfInBounds p1 (.agg (lD x.1).toArray),defers:=[] } W)
  (hbody:∀(ly:Nat) (pre:List Lp) (x:Lp) (Bx:Nat) (W:World),I pre W→w.heap.size≤Bx→aG W Bx 178 (lD x.1).toArray →
   body.wpIn (Fence.wide.inRound ly) (n-1-1) Tryz.prog (ownPostG w.heap.size (iW ex B1 w.heap.size) I (fun _ _ _=>False) (pre++[x]) W) { tmps:=Sm a.tmps x Bx,defers:=[] } W)
  (hdone:∀(D:Nat) (xs:List Lp) (W:World),w.heap.size≤D→xs.map (·.1)=NW ⟨p,f,lo,hi,no,tu,sl⟩ look la fa (tb-fa).toNat→I xs W→W.heap[D]?=some (.deferred (some []))→Q .normal { a with defers:={ target:=.collected D,args:=#[] } :: a.defers } W) :
  (Code.rangeFunc op #[p1] assign body).wpIn Fence.wide n Tryz.prog Q a w:=by
 refine uG hn hg (enters_of Tryz.func151 (by kernel_rfl) rfl) (Xh ex B1 w.heap.size bs bo bl bk p f lo hi no tu sl fa tb look la (fun _ _=>True) (n-1) w hB1 (Nat.le_refl _) ks ko kl kk ⟨es,ks.lt⟩ ⟨eo,ko.lt⟩ ⟨el,kl.lt⟩ ⟨ek,kk.lt⟩ hv hla)
  (fun h k=>h.trans k) (fun W l o o' hl ho _=>rW hB1 W l o o' hl ho) (fun _=>rfl) I (fun _ _ _=>False) (fun _ _ _=>trivial) hI (fun _ _ _ _ _ h=>h.elim) h0
  (fun x a' W=>∃Bx,w.heap.size≤Bx∧aG W Bx 178 (lD x.1).toArray∧a'={ tmps:=Sm a.tmps x Bx,defers:=[] }) ?_ ?_ ?_ hdone (fun _ _ _ _ _ _ h=>h.elim)
 ·rintro x a' _ X Y row ⟨Bx,h1,h2,h3⟩ hgr hr;exact⟨Bx,h1,bF h2 hgr hr,h3⟩
 ·intro ly pre x W K EC hK;have hz:((#[p1].zip (Xf x)).foldl (fun t (p,v)=>t.setIfInBounds p v) a.tmps)=a.tmps.setIfInBounds p1 (.agg (lD x.1).toArray):=by simp[Xf]
  rw[hz];have hs:=hIs _ _ EC;exact hassign ly x W _ (hK _ _ ((KeepsOthers.alloc W _).from _) (iW.ext (aj (Below.refl _ _) _) hB1 hs) (hI.alloc _ EC) ⟨W.heap.size,hs,aG.new _ _ _,rfl⟩)
 ·rintro ly pre x a' W EC ⟨Bx,h1,h2,rfl⟩ hlen;exact hbody ly pre x Bx W EC h1 h2
def xX (x:Int):Int:=wrap64 (2 ^ x.toNat)
def intRow (R:List Int):Array Value:=(R.map (fun x=>Value.int .i64 x)).toArray
def kG (a b:Int):Int:=bits .or .i64 a b
def jQ (a b:Int):Int:=bits .and .i64 a b
theorem Tt (a b:Int) (w:World):(binOp .or 3 (.int .i64 a) (.int .i64 b)).run Tryz.prog w=.ok (.int .i64 (kG a b)) w:=rfl
theorem Xi (a b:Int) (w:World):(binOp .and 3 (.int .i64 a) (.int .i64 b)).run Tryz.prog w=.ok (.int .i64 (jQ a b)) w:=rfl
def Lr (R:List Int) (s:Int×Int×Int):List Int:=R.set s.2.1.toNat (kG (R.getD s.2.1.toNat 0) (xX s.1))
def wu (o:iM) (look la a b:Int):List Int:=(NW o look la a (b-a).toNat).foldl Lr (List.replicate 24 0)
theorem Tv (R:List Int) (s:Int×Int×Int):(Lr R s).length=R.length:=by simp[Lr]
theorem D7 (l:List (Int×Int×Int)):∀R:List Int,(l.foldl Lr R).length=R.length:=by
 induction l with
 |nil=>intro R;rfl
 |cons s r ih=>intro R;rw[List.foldl_cons,ih,Tv]
theorem Tz (o:iM) (look la a b:Int):(wu o look la a b).length=24:=by simp[wu,D7]
end Go.Proofs.YtjidhhfabfnhnaaGreat
