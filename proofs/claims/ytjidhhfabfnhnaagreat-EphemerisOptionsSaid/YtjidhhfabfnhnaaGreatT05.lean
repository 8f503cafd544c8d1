/- Rows of structs that the call owns: whole structs stored into them. -/
import Derived.Test.YtjidhhfabfnhnaaGreatT01
import Derived.Test.YtjidhhfabfnhnaaGreatT04
import Derived.Deep.MidRow
import Derived.BigGuardPart
import Derived.Test.YtjidhhfabfnhnaaGreatT02
import Derived.Laws.OwnMore
namespace Go.Proofs.YtjidhhfabfnhnaaGreat
open Go.RowKit
section
variable {α:Type} {cells:α→List Value} {s:Nat} {w w':World} {B n c:Nat} {A:Option Addr} {l:List α}
theorem RA.range (hs:∀x,(cells x).length=s) (h:RA cells s w B A n c l) {k:Nat} (hk:k<n) :
  ∃(b o:Nat) (hz:k<l.length),A=some ⟨b,o,none⟩∧b<B∧w.rangeAt b (o+k*s) (cells l[k]):=by
 obtain⟨b,o,hz,hA,hb,hc⟩:=h.at_ hs hk;refine⟨b,o,hz,hA,hb,fun j v hv=>?_⟩;have hj:j<s:=by rw[←hs l[k]];exact (List.getElem?_eq_some_iff.1 hv).1
 exact (hc j hj).trans hv
theorem RA.dD {b o:Nat} {cs:List Value} (h:w.rangeAt b o cs) (hx:Ext w w'):w'.rangeAt b o cs:=fun j v hv=>ah hx (h j v hv)
theorem aG.range {g:Nat} {t:TypeId} {cs:Array Value} (h:aG w g t cs) (l:List Value) (hl:cs.toList=l):w.rangeAt g 0 l:=fun j v hv=>by
 rw[Nat.zero_add,h.cell,←hv,←hl];simp
end
theorem zM (w:World) (t:TypeId) (zs X:Array Value):(w.alloc (.cells zs t)).setRow w.heap.size X=w.alloc (.cells X t):=by
 have hw:∀(a b:World),a.heap=b.heap→a={ b with heap:=a.heap }→a=b:=fun a b h1 h2=>by rw[h2,h1]
 refine hw _ _ ?_ rfl;refine Array.ext_getElem? fun j=>?_;by_cases hj:j=w.heap.size
 ·subst hj;rw[setRow_heap _ _ _ _ _ _ (heap_alloc_new w _),heap_alloc_new]
 ·rw[setRow_other _ _ _ _ hj];rcases Nat.lt_or_ge j w.heap.size with h' | h'
  ·rw[Below.heap_alloc _ _ _ h',Below.heap_alloc _ _ _ h']
  ·rw[Array.getElem?_eq_none (by simp;omega),Array.getElem?_eq_none (by simp;omega)]
theorem ay {P:Program} {ops:Array Oper} {rest:List Oper} {op:Oper} {a:Act} {w:World} {Q:Exit→Act→World→Prop} (hgd:op.guard=none) (ty:TypeId) (x:Operand) (ho:op.op=.load ty x)
  (b o:Nat) (hx:a.eval x=.pointer (some ⟨b,o,none⟩)) (X:Array Value) (cs:List Value) (hX:cs.toArray=X) (d:TypeDesc) (hc:w.rangeAt b o cs)
  (hu:P.underlying ty=some d) (hd:d.isRow=true) (hi:(P.info? ty).map (·.size)=some cs.length)
  (h:wpList P ops Q rest (a.put op.dst (.agg X)) w):wpList P ops Q (op::rest) a w:=by
 subst hX;exact wpList_load_mid hgd ty x ho b o hx cs d hc hu hd hi h
theorem aT {P:Program} {ops:Array Oper} {rest:List Oper} {op:Oper} {a:Act} {w:World} {Q:Exit→Act→World→Prop} (hw:Region.wanted op (yielded ops a.tmps)=true) (ty:TypeId) (x:Operand) (ho:op.op=.load ty x)
  (b o:Nat) (hx:a.eval x=.pointer (some ⟨b,o,none⟩)) (X:Array Value) (cs:List Value) (hX:cs.toArray=X) (d:TypeDesc) (hc:w.rangeAt b o cs)
  (hu:P.underlying ty=some d) (hd:d.isRow=true) (hi:(P.info? ty).map (·.size)=some cs.length)
  (h:wpList P ops Q rest (a.put op.dst (.agg X)) w):wpList P ops Q (op::rest) a w:=by
 subst hX;unfold wpList;rw[if_pos hw];exact .inl (wp_load_mid ty x ho b o hx cs d hc hu hd hi h)
theorem aS {P:Program} {ops:Array Oper} {rest:List Oper} {op:Oper} {a:Act} {w:World} {Q:Exit→Act→World→Prop} (hgd:op.guard=none) (ty:TypeId) (x y:Operand) (ho:op.op=.store ty x y)
  (zs X:Array Value) (hx:a.eval x=.pointer (some ⟨w.heap.size,0,none⟩)) (hy:a.eval y=.agg X) (hi:(P.info? ty).map (·.size)=some X.size) (hz:zs.size=X.size) (h1:X.all (·.oneCell')=true)
  (h:wpList P ops Q rest (a.put op.dst undef) (w.alloc (.cells X ty))):wpList P ops Q (op::rest) a (w.alloc (.cells zs ty)):=by
 refine wpList_store_row hgd ty x y ho w.heap.size X hx hy ty zs (heap_alloc_new w _) hi hz h1 ?_;rw[zM];exact h
theorem aQ:(Tryz.prog.info? 53).map (·.size)=some 21:=by kernel_rfl
theorem nU (x:St):(aC x).toArray.all (·.oneCell')=true:=by simp[aC,Value.oneCell']
theorem idSt (x:St) (w:World) :
  Calls Tryz.prog 128 #[.agg (aC x).toArray] w fun e w'=>e=.returned (.int .i64 x.id)∧Below w.heap.size w w':=by
 obtain⟨id,ow,⟨p,f,lo,hi,no,tu,sl⟩,wi,st,ch,su,rH,sh,se,wa,co,ho,sw,ra⟩:=x
 show Calls Tryz.prog 128 #[.agg #[.int .i64 id,.int .i64 ow,.int .i64 p,.int .i64 f,.int .i64 lo,.int .i64 hi,.int .i64 no,.int .i64 tu,.int .i64 sl,.int .i64 wi,.int .i64 st,.int .i64 ch,.int .i64 su,.int .i64 rH,.int .i64 sh,.int .i64 se,.int .i64 wa,.int .i64 co,.int .i64 ho,.int .i64 sw,.int .i64 ra]] w _
 go_enter Tryz.func128,Tryz.ntmps128;go_wp2;go_ret;exact⟨rfl,(by repeat (first | exact Below.refl _ _ | assumption | refine Below.drew ?_ | refine below_drewN ?_ _ | refine aj ?_ _ | refine Below.setCell ?_ (by first | (simp;done) | omega | (simp;omega)) _ | refine aA ?_ (by assumption)))⟩
theorem ZF (x:St) (w:World):Calls Tryz.prog 127 #[.agg (aC x).toArray] w fun e w'=>e=.returned (.bool (dQ x))∧Below w.heap.size w w':=by
 obtain⟨id,ow,⟨p,f,lo,hi,no,tu,sl⟩,wi,st,ch,su,rH,sh,se,wa,co,ho,sw,ra⟩:=x;exact Oj id ow p f lo hi no tu sl wi st ch su rH sh se wa co ho sw ra w
set_option maxRecDepth 100000 in
set_option maxHeartbeats 2000000 in
theorem QN (l:List St) (A:Option Addr) (n c:Nat) (w:World) (h:RA aC 21 w w.heap.size A n c l) :
  Calls Tryz.prog 126 #[.slice A n c,.int .i64 24,.func (.func 127) #[] #[],.func (.func 128) #[] #[]] w fun e w'=>e=.returned (.bool (eH l))∧Below w.heap.size w w':=by
 have HR:=Lib.hid h;have hle:=h.le;have hlen:=h.len;have HL:=Lib.hid hlen;have hs:eH l=(decide (n≤24)&&dH dQ (·.id) none l):=by rw[eH,hlen]
 rw[hs];clear h hs hlen;by_cases hm:n≤24
 ·have hd:decide (n≤24)=true:=by simpa using hm
  rw[hd,Bool.true_and];clear hd;have hrl:dH dQ (·.id) none l=dH dQ (·.id) (aV l 0) (l.drop 0):=by simp[aV]
  have HQ:=Lib.hid hrl;clear hrl;go_enter Tryz.func126,Tryz.ntmps126;go_wp2;go_loopw [17] (fun i wr=>∃k:Nat,k≤n∧i=.int .i64 k∧Hid (dH dQ (·.id) none l=dH dQ (·.id) (aV l k) (l.drop k))∧Below w.heap.size w wr) (fun i _=>n-(intOf i).toNat)
  case atStart=>exact⟨0,Nat.zero_le _,rfl,HQ,Below.refl _ _⟩
  case round =>
   clear HQ;obtain⟨k,hk,rfl,HK,hB⟩:=hrel;by_cases hlt:k<n
   ·obtain⟨b,o,hz,hA,hbl,hc⟩:=RA.range gJ (HR.out.below hB) hlt;have hst:=nT dQ (fun x=>x.id) l k hz;rw[←HK.out]at hst;generalize l[k]=x at hst hc;have hv:=ZF x;have hid:=idSt x;have h1:=nU x;have hsx:(aC x).toArray.size=21:=rfl;have HC:=Lib.hid hc;have KX:aG (wr.alloc (.cells (aC x).toArray 53)) wr.heap.size 53 (aC x).toArray:=aG.new _ _ _;obtain⟨X,hX⟩:∃X,(aC x).toArray=X:=⟨_,rfl⟩;rw[hX]at hv hid h1 hsx KX;have CP:=Lib.hid h1;have kF:=Lib.hid hsx;have HV:=Lib.hid hv;have HIX:=Lib.hid hid;have iP:=Lib.hid hX;generalize dQ x=q at hst HV;have HS:=Lib.hid hst;clear hst hc HK hX hv hid h1 hsx;subst hA;have hblt:b<w.heap.size:=hbl;go_wp2_with (first | (refine ay rfl _ _ rfl b (o+k*21) rfl X (aC x) iP.out _ HC.out Tryz.underlying53 rfl aQ ?_) | (refine aS rfl 53 _ _ rfl _ X rfl rfl (by rw[kF.out];exact aQ) (by rw[kF.out];rfl) CP.out ?_));have hB1:Below w.heap.size w (wr.alloc (.cells X 53)):=aj hB _;have hx1:Ext wr (wr.alloc (.cells X 53)):=aj (Below.refl _ _) _;obtain⟨gb,hgb⟩:∃g,g=wr.heap.size:=⟨_,rfl⟩;rw[←hgb]at KX⊢;generalize wr.alloc (.cells X 53)=W at KX hB1 hx1⊢;have kC:=Lib.hid hx1;have K:=Lib.hid KX;have K:aG W gb 53 (aC x).toArray:=by rw[iP.out];exact KX
    clear hx1 hgb KX;cases q
    ·skip;refine aF 21 [some (.func (.func 127) #[] #[]),some (.agg X),some (.bool false),some (.bool true),some (.bool true),some (undef),some (undef),some (undef),some (undef),some (undef),some (undef),some (undef),some (undef),some (undef),some (undef),some (undef),some (undef),some (undef),some (undef),some (undef),some (.bool true)] [] ?_ ?_ ?_
     ·trivial
     ·refine⟨?_,?x1,?x2,?_,?_,?_,?_,?_,?_,?_,?_,?_,?_,?_,?_,?_,?_,?_,?_,?_,?_,trivial⟩
      case x1 =>
       intro vals w1 hx hd;clear hd;simp only[Lf,au,Act.put,bH,bG];refine ay rfl _ _ rfl gb 0 rfl X (aC x) iP.out _ (aG.range (K.ext (hx.aH)) (aC x) (by simp)) Tryz.underlying53 rfl aQ ?_;go_wp2;exact q_
      case x2 =>
       intro vals w1 hx hd;clear hd;simp only[Lf,au,Act.put,bH,bG];go_wp2_with fail;refine (HV.out _).mono ?_;rintro e w2 ⟨rfl,hb2⟩;go_wp2;exact⟨rfl,hb2,rfl⟩
      all_goals
       intro vals w1 hx hd;clear hd;simp only[Lf,au,Act.put,bH,bG];go_wp2;exact iq
     intro vals w5 hx hf;have e20:vals 20=.bool true:=hf 20 (by omega);clear hf;have hx:=hx.aH;have iJ:=aA hB1 hx;refine dO (by kernel_rfl) ?_;simp only[Lf,au,Act.put,FR_];rw[e20];clear e20;go_wp2;go_ret;exact⟨by rw[HS.out];rfl,iJ⟩
    ·by_cases hk0:k=0
     ·have hk0':(k:Int)≤0:=by omega
      have hpv:aV l k=none:=by simp[aV,hk0]
      have HP:=Lib.hid hpv;have zN:=Lib.hid hk0;have hkd:decide (0<k)=false:=by simp;omega
      clear hpv hk0;refine aF 21 [some (.func (.func 127) #[] #[]),some (.agg X),some (.bool true),some (.bool false),some (.bool false),some (.int .i64 (k:Int)),some (.bool false),some (.bool false),some (undef),some (undef),some (undef),some (undef),some (undef),some (undef),some (undef),some (undef),some (undef),some (undef),some (undef),some (.bool false),some (.bool false)] [] ?_ ?_ ?_
      ·trivial
      ·refine⟨?_,?x1,?x2,?_,?_,?_,?_,?_,?_,?_,?_,?_,?_,?_,?_,?_,?_,?_,?_,?_,?_,trivial⟩
       case x1 =>
        intro vals w1 hx hd;clear hd;simp only[Lf,au,Act.put,bH,bG];refine ay rfl _ _ rfl gb 0 rfl X (aC x) iP.out _ (aG.range (K.ext (hx.aH)) (aC x) (by simp)) Tryz.underlying53 rfl aQ ?_;go_wp2;exact q_
       case x2 =>
        intro vals w1 hx hd;clear hd;simp only[Lf,au,Act.put,bH,bG];go_wp2_with fail;refine (HV.out _).mono ?_;rintro e w2 ⟨rfl,hb2⟩;go_wp2;exact⟨rfl,hb2,rfl⟩
       all_goals
        intro vals w1 hx hd;clear hd;simp only[Lf,au,Act.put,bH,bG];go_wp2;exact iq
      intro vals w5 hx hf;have e20:vals 20=.bool false:=hf 20 (by omega);clear hf;have hx:=hx.aH;have iJ:=aA hB1 hx;refine dO (by kernel_rfl) ?_;simp only[Lf,au,Act.put,FR_];rw[e20];clear e20;go_wp2;go_roundw
      case rel=>exact⟨k+1,by omega,by go_num,Lib.hid (by rw[HS.out,HP.out];rfl),iJ⟩
      case measure=>simp[intOf];omega
     ·have hk1:(0:Int)<(k:Int):=by omega
      obtain⟨b',o',hz',hA',uO,hc'⟩:=RA.range gJ (HR.out.below hB) (k:=k-1) (by omega);obtain⟨rfl,rfl⟩:b'=b∧o'=o:=by injection hA' with hA';injection hA' with h1 h2;exact⟨h1.symm,h2.symm⟩
      have hpv:aV l k=some l[k-1]:=by unfold aV;rw[if_neg hk0,List.getElem?_eq_getElem hz']
      generalize l[k-1]=y at hpv hc';have hry:=hc';have hid:=idSt y;obtain⟨Y,hY⟩:∃Y,(aC y).toArray=Y:=⟨_,rfl⟩;rw[hY]at hid;have HIY:=Lib.hid hid;have vC:=Lib.hid hY;have HP:=Lib.hid hpv;have zN:=Lib.hid hk0;clear hpv hc' hA' uO hk0 hid hY;have hki:IntKind.i64.wrap ((k:Int)-1)=(k:Int)-1:=IntWalk.i64_in _ (by omega);have hkn:((k:Int)-1).toNat=k-1:=by omega
      have hkd:decide (0<k)=true:=by simp;omega
      refine aF 21 [some (.func (.func 127) #[] #[]),some (.agg X),some (.bool true),some (.bool false),some (.bool false),some (.int .i64 (k:Int)),some (.bool true),some (.bool true),some (.func (.func 128) #[] #[]),some (.agg X),some (.int .i64 x.id),some (.func (.func 128) #[] #[]),some (.slice (some ⟨b',o',none⟩) n c),some (.int .i64 (k:Int)),some (.int .i64 ((k:Int)-1)),some (.pointer (some ⟨b',o'+(k-1)*21,none⟩)),some (.agg Y),some (.int .i64 y.id),some (.bool (decide (x.id≤y.id))),some (.bool (decide (x.id≤y.id))),some (.bool (decide (x.id≤y.id)))] [] ?_ ?_ ?_
      ·trivial
      ·refine⟨?_,?x1,?x2,?_,?_,?_,?_,?_,?_,?x9,?x10,?_,?_,?_,?_,?_,?x16,?x17,?_,?_,?_,trivial⟩
       case x1 =>
        intro vals w1 hx hd;clear hd;simp only[Lf,au,Act.put,bH,bG];refine ay rfl _ _ rfl gb 0 rfl X (aC x) iP.out _ (aG.range (K.ext (hx.aH)) (aC x) (by simp)) Tryz.underlying53 rfl aQ ?_;go_wp2;exact q_
       case x2 =>
        intro vals w1 hx hd;clear hd;simp only[Lf,au,Act.put,bH,bG];go_wp2_with fail;refine (HV.out _).mono ?_;rintro e w2 ⟨rfl,hb2⟩;go_wp2;exact⟨rfl,hb2,rfl⟩
       case x9 =>
        intro vals w1 hx hd;clear hd;simp only[Lf,au,Act.put,bH,bG];refine aT rfl _ _ rfl gb 0 rfl X (aC x) iP.out _ (aG.range (K.ext (hx.aH)) (aC x) (by simp)) Tryz.underlying53 rfl aQ ?_;go_wp2;exact q_
       case x10 =>
        intro vals w1 hx hd;clear hd;simp only[Lf,au,Act.put,bH,bG];go_wp2_with fail;refine (HIX.out _).mono ?_;rintro e w2 ⟨rfl,hb2⟩;go_wp2;exact⟨rfl,hb2,rfl⟩
       case x16 =>
        intro vals w1 hx hd;clear hd;simp only[Lf,au,Act.put,bH,bG];refine aT rfl _ _ rfl b' (o'+(k-1)*21) rfl Y (aC y) vC.out _ (RA.dD hry (Ext.trans kC.out hx.aH)) Tryz.underlying53 rfl aQ ?_;go_wp2;exact q_
       case x17 =>
        intro vals w1 hx hd;clear hd;simp only[Lf,au,Act.put,bH,bG];go_wp2_with fail;refine (HIY.out _).mono ?_;rintro e w2 ⟨rfl,hb2⟩;go_wp2;exact⟨rfl,hb2,rfl⟩
       all_goals
        intro vals w1 hx hd;clear hd;simp only[Lf,au,Act.put,bH,bG];go_wp2;exact iq
      intro vals w5 hx hf;have e20:vals 20=.bool (decide (x.id≤y.id)):=hf 20 (by omega);clear hf;have hx:=hx.aH;have iJ:=aA hB1 hx;refine dO (by kernel_rfl) ?_;simp only[Lf,au,Act.put,FR_];rw[e20];clear e20;by_cases hid:x.id≤y.id
      ·have mO:decide (y.id<x.id)=false:=by simp;omega
       have HI:=Lib.hid mO;clear mO;go_wp2;go_ret;exact⟨by rw[HS.out,HP.out];simp[HI.out],iJ⟩
      ·have mO:decide (y.id<x.id)=true:=by simp;omega
       have HI:=Lib.hid mO;clear mO;go_wp2;go_roundw
       case rel=>exact⟨k+1,by omega,by go_num,Lib.hid (by rw[HS.out,HP.out];simp[HI.out]),iJ⟩
       case measure=>simp[intOf];omega
   ·go_wp2;go_ret;exact⟨by rw[HK.out,List.drop_of_length_le (by rw[HL.out];omega)];rfl,hB⟩
 ·have hd:decide (n≤24)=false:=by simpa using hm
  rw[hd,Bool.false_and];clear hd;go_enter Tryz.func126,Tryz.ntmps126;go_wp2;go_ret;exact⟨rfl,(by repeat (first | exact Below.refl _ _ | assumption | refine Below.drew ?_ | refine below_drewN ?_ _ | refine aj ?_ _ | refine Below.setCell ?_ (by first | (simp;done) | omega | (simp;omega)) _ | refine aA ?_ (by assumption)))⟩
theorem uy (l:List St) (A:Option Addr) (n c:Nat) (w:World) (h:RA aC 21 w w.heap.size A n c l) :
  Calls Tryz.prog 72 #[.slice A n c] w fun e w'=>e=.returned (.bool (eH l))∧Below w.heap.size w w':=by
 have hc:=QN l A n c w h;generalize eH l=r at hc⊢;have HC:=Lib.hid hc;clear hc h;go_enter Tryz.func72,Tryz.ntmps72;go_wp2_with fail;refine HC.out.mono ?_;rintro e w' ⟨rfl,hb⟩;go_wp2;go_ret;exact⟨rfl,hb⟩
end Go.Proofs.YtjidhhfabfnhnaaGreat
namespace Go.Proofs.YtjidhhfabfnhnaaGreat
open Go.RowKit
theorem lX.VW {w:World} {b:Nat} {t:TypeId} {b0 b1:wU} (h:aG w b t (eF b0++eF b1).toArray):lX w b [b0,b1]:=fun k hk=>by
 have hk:k<2:=hk
 match k,hk with
 |0,_=>exact⟨h.cell 0,h.cell 1,h.cell 2⟩
 |1,_=>exact⟨h.cell 3,h.cell 4,h.cell 5⟩
set_option maxHeartbeats 4000000 in
theorem JR (sa sn a b c d:Int) (w:World) :
  Calls Tryz.prog 66 #[.agg #[.int .i64 sa,.int .i64 sn,.int .i64 a,.int .i64 b,.int .i64 c,.int .i64 d]] w fun e w'=>e=.returned (.bool (fQ ⟨sa,sn,⟨a,b⟩,⟨c,d⟩⟩))∧Below w.heap.size w w':=by
 have hs:fQ ⟨sa,sn,⟨a,b⟩,⟨c,d⟩⟩=(([⟨sa,0,23⟩,⟨sn,0,11⟩]:List wU).all (fun b=>inB b.n b.lo b.hi)&&decide (0≤c∧c<d∧d≤1000001)&&(decide (a=0∧b=0)||decide (c≤a∧a<b∧b≤d))):=by
  simp only[fQ,List.all_cons,List.all_nil,Bool.and_true,Nc,iO.mk.injEq]
 rw[hs];clear hs;generalize ha:([⟨sa,0,23⟩,⟨sn,0,11⟩]:List wU).all (fun b=>inB b.n b.lo b.hi)=q;have HA:=Lib.hid ha;clear ha;go_enter Tryz.func66,Tryz.ntmps66;go_wp2_with fail;have K:aG ((w.alloc (.cells #[.int .i64 sa,.int .i64 sn,.int .i64 a,.int .i64 b,.int .i64 c,.int .i64 d] 75)).alloc (.cells #[.int .i64 sa,.int .i64 0,.int .i64 23,.int .i64 sn,.int .i64 0,.int .i64 11] 189)) w.heap.size 75 #[.int .i64 sa,.int .i64 sn,.int .i64 a,.int .i64 b,.int .i64 c,.int .i64 d]:=(aG.new _ _ _).alloc _;have K2:aG ((w.alloc (.cells #[.int .i64 sa,.int .i64 sn,.int .i64 a,.int .i64 b,.int .i64 c,.int .i64 d] 75)).alloc (.cells #[.int .i64 sa,.int .i64 0,.int .i64 23,.int .i64 sn,.int .i64 0,.int .i64 11] 189)) (w.heap.size+1) 189 #[.int .i64 sa,.int .i64 0,.int .i64 23,.int .i64 sn,.int .i64 0,.int .i64 11]:=aG.bC _ _ _ (by simp);have hb:Below w.heap.size w ((w.alloc (.cells #[.int .i64 sa,.int .i64 sn,.int .i64 a,.int .i64 b,.int .i64 c,.int .i64 d] 75)).alloc (.cells #[.int .i64 sa,.int .i64 0,.int .i64 23,.int .i64 sn,.int .i64 0,.int .i64 11] 189)):=(by repeat (first | exact Below.refl _ _ | assumption | refine Below.drew ?_ | refine below_drewN ?_ _ | refine aj ?_ _ | refine Below.setCell ?_ (by first | (simp;done) | omega | (simp;omega)) _ | refine aA ?_ (by assumption)));generalize (w.alloc (.cells #[.int .i64 sa,.int .i64 sn,.int .i64 a,.int .i64 b,.int .i64 c,.int .i64 d] 75)).alloc (.cells #[.int .i64 sa,.int .i64 0,.int .i64 23,.int .i64 sn,.int .i64 0,.int .i64 11] 189)=W at K K2 hb⊢;refine (oN [⟨sa,0,23⟩,⟨sn,0,11⟩] (w.heap.size+1) 2 2 W rfl (lX.VW K2) K2.lt (by omega)).mono ?_;rintro e W2 ⟨rfl,hb2⟩;have K:=K.below hb2 (by have:=K.lt;omega);have hB2:Below w.heap.size w W2:=hb.trans (Below.mono hb2 hb.size);clear K2 hb hb2;have g2:W2.cell? ⟨w.heap.size,2,none⟩=some (.int .i64 a):=K.cell 2;have g3:W2.cell? ⟨w.heap.size,3,none⟩=some (.int .i64 b):=K.cell 3;have g4:W2.cell? ⟨w.heap.size,4,none⟩=some (.int .i64 c):=K.cell 4;have g5:W2.cell? ⟨w.heap.size,5,none⟩=some (.int .i64 d):=K.cell 5;rw[HA.out];clear HA K;go_upto_region 4 with (fail)
 all_goals cases q
 all_goals
  go_wp2
 all_goals
  go_ret;exact⟨by first | (simp[*];done) | (simp[*];omega),hB2⟩
end Go.Proofs.YtjidhhfabfnhnaaGreat
namespace Go.Proofs.YtjidhhfabfnhnaaGreat
open Go.RowKit
theorem bV:(Tryz.prog.info? 75).map (·.size)=some 6:=by kernel_rfl
theorem QO (x:bP) (w:World):Calls Tryz.prog 66 #[.agg (ak x).toArray] w fun e w'=>e=.returned (.bool (fQ x))∧Below w.heap.size w w':=by
 obtain⟨sa,sn,⟨a,b⟩,⟨c,d⟩⟩:=x;exact JR sa sn a b c d w
theorem Du (x y:bP) (w:World):Calls Tryz.prog 68 #[.agg (ak x).toArray,.agg (ak y).toArray] w fun e w'=>e=.returned (.int .i64 (aU x y))∧Below w.heap.size w w':=by
 obtain⟨sa,sn,⟨a,b⟩,⟨c,d⟩⟩:=x;obtain⟨sa',sn',⟨a',b'⟩,⟨c',d'⟩⟩:=y;exact GU sa sn a b c d sa' sn' a' b' c' d' w
theorem GV (x:bP) (w:World):Calls Tryz.prog 65 #[.agg (ak x).toArray] w fun e w'=>e=.returned (.bool (!fQ x))∧Below w.heap.size w w':=by
 have hv:=QO x;generalize fQ x=q at hv⊢;obtain⟨sa,sn,⟨a,b⟩,⟨c,d⟩⟩:=x;have HV:=Lib.hid hv;clear hv
 show Calls Tryz.prog 65 #[.agg #[.int .i64 sa,.int .i64 sn,.int .i64 a,.int .i64 b,.int .i64 c,.int .i64 d]] w _
 go_enter Tryz.func65,Tryz.ntmps65;go_wp2_with fail;refine (HV.out _).mono ?_;rintro e w2 ⟨rfl,hb⟩;have hB:Below w.heap.size w w2:=aA (by repeat (first | exact Below.refl _ _ | assumption | refine Below.drew ?_ | refine below_drewN ?_ _ | refine aj ?_ _ | refine Below.setCell ?_ (by first | (simp;done) | omega | (simp;omega)) _ | refine aA ?_ (by assumption))) hb;go_wp2;go_ret;exact⟨rfl,hB⟩
def gK {α:Type} (p:α→Bool):List α→Int→Int
 |[],_=>-1
 |x::r,k=>if p x then k else gK p r (k+1)
theorem oV {α:Type} (p:α→Bool) (l:List α) (k:Int) (hk:0≤k):(0≤gK p l k)=(l.any p=true):=by
 induction l generalizing k with
 |nil=>simp[gK]
 |cons x r ih =>
  unfold gK;cases hx:p x
  ·simp[hx,ih (k+1) (by omega)]
  ·simp[hx,hk]
theorem l7 {α:Type} (p:α→Bool) (l:List α) (k:Nat) (h:k<l.length):gK p (l.drop k) k=if p l[k] then (k:Int) else gK p (l.drop (k+1)) (k+1:Nat):=by
 rw[List.drop_eq_getElem_cons h,gK]
 split<;>simp
theorem QS (l:List bP) (A:Option Addr) (n c:Nat) (w:World) (h:RA ak 6 w w.heap.size A n c l) :
  Calls Tryz.prog 124 #[.slice A n c,.func (.func 65) #[] #[]] w
   fun e w'=>e=.returned (.int .i64 (gK (fun x=>!fQ x) l 0))∧Below w.heap.size w w':=by
 have HR:=Lib.hid h;have hle:=h.le;have HL:=Lib.hid h.len;clear h;go_enter Tryz.func124,Tryz.ntmps124;go_wp2;go_loopw [8] (fun i wr=>∃k:Nat,k≤n∧i=.int .i64 k∧Hid (gK (fun x=>!fQ x) l 0=gK (fun x=>!fQ x) (l.drop k) k)∧Below w.heap.size w wr) (fun i _=>n-(intOf i).toNat)
 case atStart=>exact⟨0,Nat.zero_le _,rfl,rfl,Below.refl _ _⟩
 case round =>
  obtain⟨k,hk,rfl,H,hB⟩:=hrel;by_cases hlt:k<n
  ·obtain⟨b,o,hz,hA,hbl,hc⟩:=RA.range bg (HR.out.below hB) hlt;have hst:=l7 (fun x=>!fQ x) l k hz;rw[←H.out]at hst;generalize l[k]=x at hst hc;have hv:=GV x;obtain⟨X,hX⟩:∃X,(ak x).toArray=X:=⟨_,rfl⟩;rw[hX]at hv;generalize (!fQ x)=q at hst hv;have HX:=Lib.hid hX;have HV:=Lib.hid hv;have HS:=Lib.hid hst;have qN:=Lib.hid hc;clear hX hv hst hc;subst hA;go_wp2_with (refine ay rfl _ _ rfl b (o+k*6) rfl X (ak x) HX.out _ qN.out Tryz.underlying75 rfl bV ?_);refine (HV.out _).mono ?_;rintro e w2 ⟨rfl,hb2⟩;have hB2:Below w.heap.size w w2:=aA hB hb2;cases q
   ·go_wp2;go_roundw
    case rel=>exact⟨k+1,by omega,by go_num,HS.out.trans (by simp),hB2⟩
    case measure=>simp[intOf];omega
   ·go_wp2;go_ret;exact⟨by rw[HS.out];simp,hB2⟩
  ·go_wp2;go_ret;exact⟨by rw[H.out,List.drop_of_length_le (by rw[HL.out];omega)];rfl,hB⟩
theorem GX (l:List bP) (A:Option Addr) (n c:Nat) (w:World) (h:RA ak 6 w w.heap.size A n c l) :
  Calls Tryz.prog 64 #[.slice A n c,.func (.func 65) #[] #[]] w
   fun e w'=>e=.returned (.bool (!l.all fQ))∧Below w.heap.size w w':=by
 have hf:=QS l A n c w h;have hbb:(!l.all fQ)=decide (0≤gK (fun x=>!fQ x) l 0):=by
  rw[Bool.eq_iff_iff,decide_eq_true_iff,oV _ _ 0 (by omega)];simp
 rw[hbb];generalize gK (fun x=>!fQ x) l 0=r at hf;have HF:=Lib.hid hf;clear hf hbb h;go_enter Tryz.func64,Tryz.ntmps64;go_wp2_with (go_at_call 124;refine HF.out.mono ?_;rintro e w' ⟨rfl,hb'⟩);go_ret;exact⟨rfl,(by repeat (first | exact Below.refl _ _ | assumption | refine Below.drew ?_ | refine below_drewN ?_ _ | refine aj ?_ _ | refine Below.setCell ?_ (by first | (simp;done) | omega | (simp;omega)) _ | refine aA ?_ (by assumption)))⟩
def fJ:List bP→Bool
 |[]=>true
 |[_]=>true
 |x::y::r=>!decide (aU y x<0)&&fJ (y::r)
theorem GY (l:List bP) (k:Nat) (h:l.length≤k+1):fJ (l.drop k)=true:=by
 match hl:l.drop k with
 |[]=>rfl
 |[_]=>rfl
 |x::y::r =>
  have:=congrArg List.length hl;simp at this;omega
theorem EH (l:List bP) (k:Nat) (h0:0<k) (h:k<l.length):fJ (l.drop (k-1))=(!decide (aU l[k] (l[k-1]'(by omega))<0)&&fJ (l.drop k)):=by
 obtain⟨k,rfl⟩:∃j,k=j+1:=⟨k-1,by omega⟩;simp only[Nat.add_sub_cancel];rw[List.drop_eq_getElem_cons (by omega:k<l.length),List.drop_eq_getElem_cons h,fJ]
theorem CQ (l:List bP) (k:Nat) (h:fJ (l.drop k)=false):fJ l=false:=by
 induction k generalizing l with
 |zero=>simpa using h
 |succ k ih =>
  match l with
  |[]=>simpa using h
  |[x]=>simp[fJ]at h
  |x::y::r =>
   have:=ih (y::r) (by simpa using h);rw[fJ,this,Bool.and_false]
theorem Ol (l:List bP) (A:Option Addr) (n c:Nat) (w:World) (h:RA ak 6 w w.heap.size A n c l) :
  Calls Tryz.prog 67 #[.slice A n c,.func (.func 68) #[] #[]] w
   fun e w'=>e=.returned (.bool (fJ l))∧Below w.heap.size w w':=by
 have HR:=Lib.hid h;have hle:=h.le;have HL:=Lib.hid h.len;have h0:fJ (l.drop (n-1))=true:=GY l _ (by rw[h.len];omega);have H0:=Lib.hid h0;clear h h0;go_enter Tryz.func67,Tryz.ntmps67;go_wp2;go_loopw [5] (fun i wr=>∃k:Int,-1≤k∧k<n∧i=.int .i64 k∧Hid (fJ (l.drop k.toNat)=true)∧Below w.heap.size w wr) (fun i _=>(intOf i).toNat)
 case atStart=>exact⟨(n:Int)-1,by omega,by omega,rfl,by rw[show ((n:Int)-1).toNat=n-1 by omega];exact H0,Below.refl _ _⟩
 case round =>
  clear H0;obtain⟨i,hi1,hi2,rfl,H,hB⟩:=hrel;by_cases hpos:0<i
  ·obtain⟨k,rfl⟩:∃k:Nat,i=k:=⟨i.toNat,by omega⟩;have hkn:k<n:=by omega
   have hk0:0<k:=by omega
   rw[Int.toNat_natCast]at H;obtain⟨b,o,hz,hA,hbl,hx_⟩:=RA.range bg (HR.out.below hB) hkn;obtain⟨b',o',hz',hA',uO,ZG⟩:=RA.range bg (HR.out.below hB) (k:=k-1) (by omega);have hst:=EH l k hk0 hz;rw[H.out,Bool.and_true]at hst;generalize l[k]=x at hst hx_;generalize l[k-1]=y at hst ZG;obtain⟨hb1,ho1⟩:b'=b∧o'=o:=by rw[hA]at hA';injection hA' with hA';injection hA' with h1 h2;exact⟨h1.symm,h2.symm⟩
   rw[hb1,ho1]at ZG;have hv:=Du x y;obtain⟨X,hX⟩:∃X,(ak x).toArray=X:=⟨_,rfl⟩;obtain⟨Y,hY⟩:∃Y,(ak y).toArray=Y:=⟨_,rfl⟩;rw[hX,hY]at hv;generalize aU x y=cv at hst hv;have HX:=Lib.hid hX;have HY:=Lib.hid hY;have HC:=Lib.hid hv;have HS:=Lib.hid hst;clear hX hY hv hst hA' uO hb1 ho1 b' o';subst hA;have hki:IntKind.i64.wrap ((k:Int)-1)=(k:Int)-1:=IntWalk.i64_in _ (by omega);have hkt:((k:Int)-1).toNat=k-1:=by omega
   have HKT:=Lib.hid hkt;go_wp2_with fail;refine aF 12 [some (.func (.func 68) #[] #[]),some (.slice (some ⟨b,o,none⟩) n c),some (.int .i64 (k:Int)),some (.pointer (some ⟨b,o+k*6,none⟩)),some (.agg X),some (.slice (some ⟨b,o,none⟩) n c),some (.int .i64 (k:Int)),some (.int .i64 ((k:Int)-1)),some (.pointer (some ⟨b,o+(k-1)*6,none⟩)),some (.agg Y),some (.int .i64 cv),some (.bool (decide (cv<0)))] [] ?_ ?_ ?_
   ·trivial
   ·refine⟨?_,?_,?_,?_,?x4,?_,?_,?_,?_,?x9,?x10,?_,trivial⟩
    case x4 =>
     intro vals w1 hx hd;clear hd;simp only[Lf,au,Act.put,bH,bG];refine ay rfl _ _ rfl b (o+k*6) rfl X (ak x) HX.out _ (RA.dD hx_ hx.aH) Tryz.underlying75 rfl bV ?_;go_wp2;exact q_
    case x9 =>
     intro vals w1 hx hd;clear hd;simp only[Lf,au,Act.put,bH,bG];refine ay rfl _ _ rfl b (o+(k-1)*6) rfl Y (ak y) HY.out _ (RA.dD ZG hx.aH) Tryz.underlying75 rfl bV ?_;go_wp2;exact q_
    case x10 =>
     intro vals w1 hx hd;clear hd;simp only[Lf,au,Act.put,bH,bG];go_wp2_with fail;refine (HC.out _).mono ?_;rintro e w2 ⟨rfl,hb2⟩;go_wp2;exact⟨rfl,hb2,rfl⟩
    all_goals
     intro vals w1 hx hd;clear hd;simp only[Lf,au,Act.put,bH,bG];go_wp2;exact iq
   intro vals w5 hxx hf;have e11:vals 11=.bool (decide (cv<0)):=hf 11 (by omega);clear hf;have iJ:=aA hB hxx.aH;refine dO (by kernel_rfl) ?_;simp only[Lf,au,Act.put,FR_];rw[e11];clear e11 hki hkt;by_cases hcv:cv<0
   ·have hd:decide (cv<0)=true:=by simpa using hcv
    have HD:=Lib.hid hd;clear hd;go_wp2;go_ret;have h:=CQ l _ (show fJ (l.drop (k-1))=false by rw[HS.out,HD.out];rfl);rw[h];exact⟨rfl,iJ⟩
   ·have hd:decide (cv<0)=false:=by simpa using hcv
    have HD:=Lib.hid hd;clear hd;go_wp2;go_roundw
    case rel=>exact⟨(k:Int)-1,by omega,by omega,rfl,Lib.hid (by rw[HKT.out,HS.out,HD.out];rfl),iJ⟩
    case measure=>simp[intOf];omega
  ·go_wp2;go_ret;have h:=H.out;rw[show i.toNat=0 by omega,List.drop_zero]at h;rw[h];exact⟨rfl,hB⟩
def iE (l:List bP):Bool:=decide (l.length≤64)&&l.all fQ&&fJ l
theorem JV (l:List bP) (A:Option Addr) (n c:Nat) (w:World) (h:RA ak 6 w w.heap.size A n c l) :
  Calls Tryz.prog 23 #[.slice A n c] w fun e w'=>e=.returned (.bool (iE l))∧Below w.heap.size w w':=by
 have HR:=Lib.hid h;have hle:=h.le;have hpp:iE l=(decide (n≤64)&&l.all fQ&&fJ l):=by rw[iE,h.len]
 rw[hpp];clear hpp h;have h1:=fun w h=>GX l A n c w h;have h2:=fun w h=>Ol l A n c w h;generalize l.all fQ=q1 at h1⊢;generalize fJ l=q2 at h2⊢;have H1:=Lib.hid h1;have H2:=Lib.hid h2;clear h1 h2;by_cases hn:n≤64
 ·have hd:decide (n≤64)=true:=by simpa using hn
  have hn2:(n:Int)≤64:=by omega
  rw[hd];clear hd;go_enter Tryz.func23,Tryz.ntmps23;go_wp2_with fail;refine (H1.out _ HR.out).mono ?_;rintro e w2 ⟨rfl,hb⟩;cases q1
  ·go_wp2;go_ret;exact⟨by simp,hb⟩
  ·go_wp2_with fail;refine (H2.out _ ((HR.out.below hb).more hb.size)).mono ?_;rintro e w3 ⟨rfl,hb3⟩;go_wp2;go_ret;exact⟨by simp,aA hb hb3⟩
 ·have hd:decide (n≤64)=false:=by simpa using hn
  have hn2:¬(n:Int)≤64:=by omega
  rw[hd];clear hd;go_enter Tryz.func23,Tryz.ntmps23;go_wp2;go_ret;exact⟨by simp,(by repeat (first | exact Below.refl _ _ | assumption | refine Below.drew ?_ | refine below_drewN ?_ _ | refine aj ?_ _ | refine Below.setCell ?_ (by first | (simp;done) | omega | (simp;omega)) _ | refine aA ?_ (by assumption)))⟩
theorem ZH {x:bP} (h:fQ x=true):0≤x.sure.fr∧x.sure.fr≤1000001∧0≤x.sure.tt∧x.sure.tt≤1000001:=by
 simp only[fQ,Bool.and_eq_true,Bool.or_eq_true,decide_eq_true_eq,Nc]at h;obtain⟨⟨_,h1⟩,h2⟩:=h;rcases h2 with h2 | h2
 ·rw[h2];simp
 ·omega
end Go.Proofs.YtjidhhfabfnhnaaGreat
namespace Go.Proofs.YtjidhhfabfnhnaaGreat
open Go.RowKit
theorem QT {P:Program} {ops:Array Oper} {Q:Exit→Act→World→Prop} : ∀(fuel:Nat) (listed:Array Bool) (a:Act) (w:World),wpAny P .any ops (Qn (Q .normal)) fuel listed a w→wpAny P .any ops Q fuel listed a w:=by
 intro fuel
 induction fuel with
 |zero=>intro listed a w h;exact⟨h.1,h.2⟩
 |succ n ih =>
  intro listed a w h;unfold wpAny at h⊢;refine⟨fun e=>h.1 e,fun i hi=>?_⟩;have h2:=h.2 i hi;unfold wpOp at h2⊢;cases ho:ops[i]? with
  |none=>rw[ho]at h2;exact ih _ _ _ h2
  |some o =>
   rw[ho]at h2;simp only at h2⊢;by_cases hw:Region.wanted o (yielded ops a.tmps)=true
   ·rw[if_pos hw]at h2⊢;rcases h2 with h2 | h2
    ·refine .inl ?_;unfold Oper.wp at h2⊢;generalize (execOp a.eval o).run P w=r at h2;cases r with
     |ok n w' =>
      cases n<;>simp only[Oper.upon]at h2 ⊢
      case value v=>exact ih _ _ _ h2
      case skip=>exact ih _ _ _ h2
      case defer d=>exact ih _ _ _ h2
      case enter f args =>
       refine Calls.mono h2 fun e w'' hq=>?_;cases e with
       |returned v=>exact ih _ _ _ hq
       |panicked ch=>exact absurd hq (by simp[Qn])
       |outgrown=>exact absurd hq (sW _)
      case row row args=>exact Rows.mono h2 fun v w'' hq=>ih _ _ _ hq
      all_goals exact h2
     |halt x w'=>cases x<;>simp only[Oper.upon]at h2⊢<;> first | exact h2.elim | exact absurd h2 (by simp[Qn])
    ·exact absurd h2.2 (sW _)
   ·rw[if_neg hw]at h2⊢;exact ih _ _ _ h2
def Nl (ops:Array Oper) (m:Nat) (pre:List Nat):Bool :=
 (List.range (ops.size-m)).all (fun k=>match ops[m+k]? with
  |none=>false
  |some o=>(List.range m).all (fun j=>pre.contains j||(iF ops m (bZ o)).contains j))
section
variable {P:Program} {ops:Array Oper} {Q:Exit→Act→World→Prop} {a0:Act} {w0:World} {R:Nat→(Nat→Value)→Value→World→Prop} {m:Nat} {pre:List Nat}
theorem Om (hc:Nl ops m pre=true) {i:Nat} (hi:m≤i) (hn:i<ops.size):∃o,ops[i]?=some o∧∀j,j<m→j∈pre∨j∈iF ops m (bZ o):=by
 unfold Nl at hc;simp only[List.all_eq_true,List.mem_range]at hc;have h:=hc (i-m) (by omega);rw[show m+(i-m)=i by omega]at h;cases ho:ops[i]? with
 |none=>simp[ho]at h
 |some o =>
  simp only[ho,List.all_eq_true,List.mem_range]at h;exact⟨o,rfl,fun j hj=>by simpa using h j hj⟩
theorem wY (hc:GK ops m=true):m≤ops.size:=by
 unfold GK at hc;simp only[Bool.and_eq_true,decide_eq_true_iff]at hc;exact hc.1
theorem CS (hc:GK ops m=true) (hT:Nl ops m pre=true) (hst:∀i vals v w w',i<m→R i vals v w→Ext w w'→R i vals v w') (hloc:∀i vals vals' v w,i<m→(∀d,zC ops i d=true→vals d=vals' d)→R i vals v w→R i vals' v w) (hob:∀i o,i<m→ops[i]?=some o→M_ P ops a0 w0 R i o)
  (hfin:∀(vals:Nat→Value) (w:World),Ext w0 w→(∀i,i<m→R i vals (vals i) w)→wpAny P .any ops Q (ops.size-m) (mM ops.size m) (Lf ops a0 vals m) w) :
  ∀(c:Nat) (listed:Array Bool) (vals:Nat→Value) (a:Act) (w:World),Gn listed m=c→(∀j∈pre,listed.getD j false=true)→Inv ops a0 w0 R m listed vals a w→wpAny P .any ops Q (ops.size-m+c) listed a w:=by
 intro c
 induction c with
 |zero =>
  intro listed vals a w hu hpre hI;have hall:=zF hu;have hsz:=wY hc;have hlit:listed=mM ops.size m:=by
   apply Array.ext
   ·simp[mM,hI.size]
   ·intro i h1 h2;have hg:listed.getD i false=listed[i]:=by simp[Array.getD_eq_getD_getElem?,h1]
    rcases Nat.lt_or_ge i m with h | h
    ·have:=hall i h;rw[hg]at this;simp[mM,this,h]
    ·have:=hI.tail i h;rw[hg]at this;simp[mM,this,Nat.not_lt.2 h]
  have ha:a=Lf ops a0 vals m:=by
   have ht:a.tmps=(Lf ops a0 vals m).tmps:=by
    apply Array.ext_getElem?;intro t;by_cases hj:∃j,j<m∧au ops j=some t
    ·obtain⟨j,hjm,hjt⟩:=hj;obtain⟨oj,hoj,_,Dp,_⟩:=sZ hc hjm;have hdj:oj.dst=some t:=by simpa [au,hoj]using hjt
     rcases Nat.lt_or_ge t a0.tmps.size with hlt | hge
     ·rw[hI.inner j t hjm (hall j hjm) hjt hlt,gY vals m j t hjm hjt (fun k hk1 hk2=>Dp t hdj k hk2 (by omega)) hlt]
     ·rw[Array.getElem?_eq_none (by rw[hI.oJ];exact hge),Array.getElem?_eq_none (by rw[dV];exact hge)]
    ·have hj':∀j,j<m→au ops j≠some t:=fun j hjm hjt=>hj ⟨j,hjm,hjt⟩;rw[hI.outer t (fun j hjm _=>hj' j hjm),gX vals m t (fun j hji=>hj' j hji)]
   have hd:a.defers=(Lf ops a0 vals m).defers:=by rw[fD,hI.defers]
   cases a;cases hL:Lf ops a0 vals m
   simp_all
  rw[hlit,ha];exact hfin vals w hI.ext fun i hi=>hI.facts i hi (hall i hi)
 |succ c ih =>
  intro listed vals a w hu hpre hI;have hsz:=wY hc;have hgt:∀i,i<listed.size→listed.getD i true=listed.getD i false:=fun i hi=>by simp[Array.getD_eq_getD_getElem?,hi]
  obtain⟨i0,hi0,Ez,hall0⟩:=Ey (m:=m) (listed:=listed) (by omega);obtain⟨o0,ho0,hd0,_⟩:=sZ hc hi0;have hr0:i0∈Region.ready .any ops listed:=zD (by omega) (by rw[hgt _ (by rw[hI.size];omega)];exact Ez) ho0 fun d hd=>hall0 d (hd0 d hd)
  show wpAny P .any ops Q ((ops.size-m+c)+1) listed a w
  unfold wpAny;refine⟨fun hnil=>absurd hr0 (by rw[hnil];simp),fun i hi=>?_⟩;obtain⟨hin,hiu,o,ho,hdl⟩:=uJ hi;have him:i<m:=by
   rcases Nat.lt_or_ge i m with h | h
   ·exact h
   ·obtain⟨o',ho',ht⟩:=Om hT h hin;rw[ho]at ho';injection ho' with ho';subst ho';rcases ht i0 hi0 with hp | hp
    ·have:=hpre i0 hp;rw[Ez]at this;cases this
    ·have:=gB hI.closed m _ (Nat.le_refl _) hdl i0 hp;rw[Ez]at this;cases this
  obtain⟨o',ho',hdi,hdist,hlook,GH⟩:=sZ hc him;rw[ho]at ho';injection ho' with ho';subst ho';have hiL:i<listed.size:=by rw[hI.size];exact hin
  have zG:listed.getD i false=false:=by rw[←hgt i hiL];exact hiu
  have zH:∀d,zC ops i d=true→listed.getD d false=true:=fun d hd=>by
   unfold zC at hd;refine gB hI.closed i _ (by omega) (fun d hd=>?_) d (by simpa using hd);exact hdl d (by simpa [lQ,ho]using hd)
  have QC:∀d,listed.getD d false=true→d<m:=fun d hd=>by
   rcases Nat.lt_or_ge d m with h | h
   ·exact h
   ·rw[hI.tail d h]at hd;cases hd
  refine yY GH (fD vals i) (Zx hc hI him ho hdl) ho (hob i o him ho vals w hI.ext (fun d hd=>hI.facts d (by have:=hdi d hd;omega) (hdl d hd)) (fun d hd=>hI.facts d (QC d (zH d hd)) (zH d hd))) ?_;intro v w' hext hR;refine ih _ (fun j=>if j=i then rF o ((Lf ops a0 vals i).put o.dst v) else vals j) _ _ (by have:=Ew listed i him hiL zG;omega) (fun j hj=>by rw[dK listed i j hiL];split;rfl;exact hpre j hj) ?_;have hdo:au ops i=o.dst:=by simp[au,ho]
  constructor
  ·exact hI.ext.trans hext
  ·simp[hI.size]
  ·intro j hj;rw[dK listed i j hiL,if_neg (by omega)];exact hI.tail j hj
  ·intro j hj hl d hd;rw[dK listed i d hiL];rw[dK listed i j hiL]at hl;by_cases hji:j=i
   ·subst hji;have:d∈bZ o:=by simpa [lQ,ho]using hd
    rw[hdl d this];simp
   ·rw[if_neg hji]at hl;rw[hI.closed j hj hl d hd];simp
  ·intro j hj hl;rw[dK listed i j hiL]at hl;by_cases hji:j=i
   ·subst hji;simp only[if_true];refine hloc j vals _ _ w' hj (fun d hd=>?_) hR;have hdj:d≠j:=fun e=>by
     have:=zH d hd;rw[e,zG]at this;cases this
    simp[hdj]
   ·rw[if_neg hji]at hl;simp only[hji,if_false];refine hloc j vals _ _ w' hj (fun d hd=>?_) (hst j vals _ w w' hj (hI.facts j hj hl) hext);have GI:listed.getD d false=true:=by
     unfold zC at hd;exact gB hI.closed j _ (by omega) (fun d hd=>hI.closed j hj hl d hd) d (by simpa using hd)
    have QD:d≠i:=fun e=>by
     rw[e,zG]at GI;cases GI
    simp[QD]
  ·cases hd:o.dst<;>simp[Act.put,hI.defers]
  ·cases hd:o.dst<;>simp[Act.put,hI.oJ]
  ·intro t ht;rw[gy,if_neg (by rw[←hdo];exact ht i him (by rw[dK listed i i hiL,if_pos rfl]))];refine hI.outer t fun j hj hl=>ht j hj ?_;rw[dK listed i j hiL]
   split
   ·rfl
   ·exact hl
  ·intro j t hj hl hdj htl;rw[gy];by_cases hji:j=i
   ·subst hji;rw[hdo]at hdj;rw[if_pos hdj,if_pos (by rw[hI.oJ];exact htl)];have h2:=gy (Lf ops a0 vals j) o.dst v t;rw[if_pos hdj,if_pos (by rw[dV];exact htl)]at h2;simp only[if_true,rF,hdj,Array.getD_eq_getD_getElem?];rw[hdj]at h2;rw[h2];rfl
   ·rw[dK listed i j hiL,if_neg hji]at hl;rw[if_neg (fun e=>hdist t e j hj hji hdj)];simp only[hji,if_false];exact hI.inner j t hj hl hdj htl
def vF:List (Nat×Value)→Nat→Value
 |[],_=>undef
 |(i,v)::r,j=>if j=i then v else vF r j
def lT (ops:Array Oper):List (Nat×Value)→Act→Act
 |[],a=>a
 |(i,v)::r,a=>lT ops r (a.put (au ops i) v)
def mP:List (Nat×Value)→Array Bool→Array Bool
 |[],l=>l
 |(i,_)::r,l=>mP r (l.setIfInBounds i true)
theorem GZ (L:List (Nat×Value)):∀l:Array Bool,(mP L l).size=l.size:=by
 induction L with
 |nil=>intro l;rfl
 |cons x r ih=>intro l;obtain⟨i,v⟩:=x;unfold mP;rw[ih];simp
theorem JW (L:List (Nat×Value)):∀(l:Array Bool) (j:Nat),(∀x∈L,x.1<l.size)→(mP L l).getD j false=(decide (j∈L.map (·.1))||l.getD j false):=by
 induction L with
 |nil=>intro l j _;simp[mP]
 |cons x r ih =>
  intro l j h;obtain⟨i,v⟩:=x;have hi:i<l.size:=h _ (List.mem_cons_self ..);unfold mP;rw[ih _ _ (fun y hy=>by simpa using h y (List.mem_cons_of_mem _ hy)),dK l i j hi];by_cases hji:j=i
  ·simp[hji]
  ·rw[if_neg hji];congr 1;simp[hji]
theorem CU (L:List (Nat×Value)):∀a:Act,(lT ops L a).defers=a.defers:=by
 induction L with
 |nil=>intro a;rfl
 |cons x r ih=>intro a;obtain⟨i,v⟩:=x;unfold lT;rw[ih];cases au ops i<;>simp[Act.put]
theorem G5 (L:List (Nat×Value)):∀a:Act,(lT ops L a).tmps.size=a.tmps.size:=by
 induction L with
 |nil=>intro a;rfl
 |cons x r ih=>intro a;obtain⟨i,v⟩:=x;unfold lT;rw[ih];cases au ops i<;>simp[Act.put]
theorem vG (L:List (Nat×Value)):∀(a:Act) (t:Nat),(∀x∈L,au ops x.1≠some t)→(lT ops L a).tmps[t]?=a.tmps[t]?:=by
 induction L with
 |nil=>intro a t _;rfl
 |cons x r ih =>
  intro a t h;obtain⟨i,v⟩:=x;unfold lT;rw[ih _ _ (fun y hy=>h y (List.mem_cons_of_mem _ hy)),gy,if_neg (h _ (List.mem_cons_self ..))]
theorem EK (L:List (Nat×Value)):∀(a:Act) (j t:Nat),j∈L.map (·.1)→au ops j=some t→(∀x∈L,x.1≠j→au ops x.1≠some t)→t<a.tmps.size→(L.map (·.1)).Nodup→(lT ops L a).tmps[t]?=some (vF L j):=by
 induction L with
 |nil=>intro a j t h;cases h
 |cons x r ih =>
  intro a j t hj hd hne ht hnd;obtain⟨i,v⟩:=x;unfold lT vF;have hn:=List.nodup_cons.1 hnd;by_cases hji:j=i
  ·subst hji;rw[if_pos rfl,vG r _ t (fun y hy=>hne y (List.mem_cons_of_mem _ hy) (fun e=>hn.1 (List.mem_map.2 ⟨y,hy,e⟩))),gy,if_pos hd,if_pos ht]
  ·rw[if_neg hji];have hj':j∈r.map (·.1):=by simpa [hji]using hj
   exact ih _ j t hj' hd (fun y hy=>hne y (List.mem_cons_of_mem _ hy)) (by cases au ops i<;>simpa [Act.put]using ht) hn.2
def QU (P:Program) (ops:Array Oper):List (Nat×Value)→Array Bool→Act→Prop
 |[],_,_=>True
 |(i,v)::r,l,a=>(∃o,ops[i]?=some o∧Region.free .any ops l i=true∧(Region.ready .any ops l).contains i=true∧Yields P ops o v a)∧QU P ops r (l.setIfInBounds i true) (a.put (au ops i) v)
theorem Oo (hs:Region.noSelect ops=true) {K:Act→World→Prop} (L:List (Nat×Value)):∀(fuel:Nat) (l:Array Bool) (a:Act) (w:World),QU P ops L l a→wpAny P .any ops (Qn K) fuel (mP L l) (lT ops L a) w→wpAny P .any ops (Qn K) (fuel+L.length) l a w:=by
 induction L with
 |nil=>intro fuel l a w _ h;exact h
 |cons x r ih =>
  intro fuel l a w hp h;obtain⟨i,v⟩:=x;obtain⟨⟨o,ho,hf,hr,hy⟩,hp2⟩:=hp;have hd:au ops i=o.dst:=by simp[au,ho]
  rw[hd]at hp2;refine wpAny_take (fuel:=fuel+r.length) ho hs hf hr (fun c a w h=>h) hy (ih fuel _ _ w hp2 ?_);unfold mP lT at h;rw[hd]at h;exact h
theorem EL {α:Type} (l:List α) (p:α→Bool):l.length=(l.filter (fun i=>!p i)).length+(l.filter p).length:=by
 induction l with
 |nil=>rfl
 |cons x r ih=>cases h:p x<;>simp[h]<;>omega
def QV (ops:Array Oper) (m:Nat) (js:List Nat):Bool:=js.all (fun j=>decide (j<m)&&(lQ ops j).all (fun d=>js.contains d))&&decide js.Nodup
theorem lu {id:Nat} {a:Act} {w:World} (m:Nat) (L:List (Nat×Value)) (R:Nat→(Nat→Value)→Value→World→Prop) (hm:P.follows .mixedOrders=true) (hc:GK ops m=true) (hT:Nl ops m (L.map (·.1))=true) (hs:Region.noSelect ops=true) (hpc:QV ops m (L.map (·.1))=true)
  (hpo:QU P ops L (Array.replicate ops.size false) a) (hpr:∀j∈L.map (·.1),∀vals w,R j vals (vF L j) w)
  (hst:∀i vals v w w',i<m→R i vals v w→Ext w w'→R i vals v w') (hloc:∀i vals vals' v w,i<m→(∀d,zC ops i d=true→vals d=vals' d)→R i vals v w→R i vals' v w)
  (hob:uK P ops a w.drew R 0 (ops.toList.take m))
  (hfin:∀(vals:Nat→Value) (w':World),Ext w.drew w'→(∀i,i<m→R i vals (vals i) w')→wpAny P .any ops (Qn (Q .normal)) (ops.size-m) (mM ops.size m) (Lf ops a vals m) w'):(Code.region id ops true).wp P Q a w:=by
 refine wp_region_any hm (QT _ _ _ _ ?_);have hsz:=wY hc;unfold QV at hpc;simp only[Bool.and_eq_true,List.all_eq_true,decide_eq_true_iff]at hpc;obtain⟨hpc,hnd⟩:=hpc;have hpm:∀x∈L,x.1<m:=fun x hx=>(hpc x.1 (List.mem_map_of_mem hx)).1;have hsize:∀x∈L,x.1<(Array.replicate ops.size false).size:=fun x hx=>by have:=hpm x hx;simp;omega
 have hf:∀i,(Array.replicate ops.size false).getD i false=false:=fun i=>by simp[Array.getD_eq_getD_getElem?,Array.getElem?_replicate];split<;>rfl
 have hget:∀j,(mP L (Array.replicate ops.size false)).getD j false=decide (j∈L.map (·.1)):=fun j=>by rw[JW L _ j hsize,hf,Bool.or_false]
 obtain⟨c,tZ⟩:∃c,c=Gn (mP L (Array.replicate ops.size false)) m:=⟨_,rfl⟩;have hlen:ops.size=ops.size-m+c+L.length:=by
  have h1:(List.range m).length=((List.range m).filter (fun i=>!decide (i∈L.map (·.1)))).length+((List.range m).filter (fun i=>decide (i∈L.map (·.1)))).length:=by
   exact EL _ _
  have h2:c=((List.range m).filter (fun i=>!decide (i∈L.map (·.1)))).length:=by rw[tZ,Gn];congr 1;exact List.filter_congr fun j _=>by rw[hget]
  have h3:((List.range m).filter (fun i=>decide (i∈L.map (·.1)))).length=L.length:=by
   have hp:((List.range m).filter (fun i=>decide (i∈L.map (·.1)))).Perm (L.map (·.1)):=by
    refine (List.perm_ext_iff_of_nodup (List.nodup_range.filter _) hnd).2 fun j=>?_;rw[List.mem_filter,List.mem_range,decide_eq_true_iff];exact⟨fun h=>h.2,fun h=>⟨(hpc j h).1,h⟩⟩
   rw[hp.length_eq,List.length_map]
  rw[List.length_range]at h1;omega
 have h:=CS (P:=P) (Q:=Qn (Q .normal)) (a0:=a) (w0:=w.drew) (pre:=L.map (·.1)) hc hT hst hloc (fun i o hi ho=>by
  have:=qh (P:=P) (ops:=ops) (a0:=a) (w0:=w.drew) (R:=R) _ 0 hob i o (by rw[List.getElem?_take,if_pos hi];simpa using ho);simpa using this) hfin c (mP L (Array.replicate ops.size false)) (vF L) (lT ops L a) w.drew tZ.symm (fun j hj=>by rw[hget];simpa using hj) ?_
 ·have h4:=Oo (P:=P) hs L (ops.size-m+c) (Array.replicate ops.size false) a w.drew hpo h;rw[←hlen]at h4;exact h4
 ·constructor
  ·exact Ext.refl _
  ·rw[GZ];simp
  ·intro i hi;rw[hget];simp only[decide_eq_false_iff_not];intro hmem;have:=(hpc i hmem).1;omega
  ·intro i hi hl d hd;rw[hget]at hl⊢;have:=(hpc i (by simpa using hl)).2 d hd;simpa using this
  ·intro i hi hl;rw[hget]at hl;exact hpr i (by simpa using hl) _ _
  ·exact CU _ _
  ·exact G5 _ _
  ·intro t ht;refine vG L a t fun x hx=>?_;exact ht x.1 (hpm x hx) (by rw[hget];simpa using ⟨x.2,hx⟩)
  ·intro i t hi hl hd htl;rw[hget]at hl;obtain⟨oi,hoi,_,hdist,_⟩:=sZ hc hi;have hdi:oi.dst=some t:=by simpa [au,hoi]using hd
   exact EK L a i t (by simpa using hl) hd (fun x hx hne=>hdist t hdi x.1 (hpm x hx) hne) htl hnd
end
theorem gZ {P:Program} {ops:Array Oper} {o:Oper} {a:Act} {x:Operand} {v:Value} (ho:o.op=.move x) (hg:o.guard=none) (hv:a.eval x=v):Yields P ops o v a :=
 .inl ⟨by simp[Region.wanted,hg],fun w=>by simp[execOp,ho,hv]⟩
end Go.Proofs.YtjidhhfabfnhnaaGreat
namespace Go.Proofs.YtjidhhfabfnhnaaGreat
open Go.RowKit
theorem bD {a b c:World} {row:Option Nat} (h:a.grownBy b row) (k:b.grownBy c row):a.grownBy c row :=
 ⟨k.os.trans h.os,k.tape.trans h.tape,k.output.trans h.output,Nat.le_trans h.size k.size,fun j hj hr=>(k.block j (Nat.lt_of_lt_of_le hj h.size) hr).trans (h.block j hj hr)⟩
theorem dM {a b:World} {row:Option Nat} (h:Ext a b):a.grownBy b row:=⟨h.os,h.tape,h.output,h.size,fun j hj _=>h.block j hj⟩
theorem iQ (a:World) (row:Option Nat):a.grownBy a row:=dM (Ext.refl a)
section
variable {α:Type} {cells:α→List Value} {s:Nat}
theorem wZ (hs:∀x,(cells x).length=s) (l:List α):(l.flatMap cells).length=l.length*s:=by
 induction l with
 |nil=>simp
 |cons x r ih=>rw[List.flatMap_cons,List.length_append,ih,hs,List.length_cons,Nat.succ_mul];omega
theorem jC (hs:∀x,(cells x).length=s) (l:List α) (k:Nat) (h:k<l.length) (j:Nat) (hj:j<s):(l.flatMap cells)[k*s+j]?=(cells l[k])[j]?:=by
 induction l generalizing k with
 |nil=>simp at h
 |cons x r ih =>
  rw[List.flatMap_cons];cases k with
  |zero=>rw[Nat.zero_mul,Nat.zero_add,List.getElem?_append_left (by rw[hs];exact hj)];rfl
  |succ k =>
   rw[List.getElem?_append_right (by rw[hs,Nat.succ_mul];omega),hs,show (k+1)*s+j-s=k*s+j by rw[Nat.succ_mul];omega];exact ih k (by simpa using h)
theorem QW (hs:∀x,(cells x).length=s) (l:List α) (i:Nat) (hi:i<l.length) (x:α):(l.set i x).flatMap cells=(l.flatMap cells).take (i*s)++cells x++(l.flatMap cells).drop (i*s+s):=by
 induction l generalizing i with
 |nil=>simp at hi
 |cons y r ih =>
  cases i with
  |zero =>
   rw[List.set_cons_zero,List.flatMap_cons,List.flatMap_cons,Nat.zero_mul,List.take_zero,List.nil_append,Nat.zero_add,List.drop_append_of_le_length (by rw[hs];exact Nat.le_refl _),List.drop_of_length_le (by rw[hs];exact Nat.le_refl _),List.nil_append]
  |succ i =>
   have hi':i<r.length:=by simpa using hi
   have e1:List.take (i*s+s) (cells y++r.flatMap cells)=cells y++List.take (i*s) (r.flatMap cells):=by
    rw[List.take_append,List.take_of_length_le (l:=cells y) (by rw[hs];omega),hs,show i*s+s-s=i*s by omega]
   have e2:List.drop (i*s+s+s) (cells y++r.flatMap cells)=List.drop (i*s+s) (r.flatMap cells):=by
    rw[List.drop_append,List.drop_of_length_le (l:=cells y) (by rw[hs];omega),hs,show i*s+s+s-s=i*s+s by omega,List.nil_append]
   rw[List.set_cons_succ,List.flatMap_cons,List.flatMap_cons,ih i hi',Nat.succ_mul,e1,e2];simp
end
def aW {α:Type} (cells:α→List Value) (s:Nat) (base:Nat) (e:TypeId) (g n c:Nat) (w:World) (l:List α):Prop :=
 l.length=n∧w.ownsRow base e s (.slice (some ⟨g,0,none⟩) n c) n (l.flatMap cells)
section
variable {α:Type} {cells:α→List Value} {s base:Nat} {e:TypeId} {g n c:Nat} {w w':World} {l:List α}
theorem aW.lt (h:aW cells s base e g n c w l):g<w.heap.size:=(World.ownsRow.lt h.2 g rfl).2
theorem aW.le (h:aW cells s base e g n c w l):n≤c∧c≤maxLen:=by
 obtain⟨_,_,hv,h1,h2⟩:=aX h.2;injection hv with _ _ hv;subst hv;exact⟨h1,h2⟩
theorem aW.ext (h:aW cells s base e g n c w l) (hx:Ext w w'):aW cells s base e g n c w' l:=⟨h.1,bT h.2 hx⟩
theorem aW.range (hs:∀x,(cells x).length=s) (h:aW cells s base e g n c w l) {k:Nat} (hk:k<l.length):w.rangeAt g (k*s) (cells l[k]):=fun j v hv=>by
 have hj:j<s:=by rw[←hs l[k]];exact (List.getElem?_eq_some_iff.1 hv).1
 have h1:k*s+j<n*s:=by
  have:=Nat.mul_le_mul_right s (show k+1≤n by have:=h.1;omega);rw[Nat.succ_mul]at this;omega
 rw[h.2.cellAt _ h1,jC hs l k hk j hj];exact hv
theorem aW.there (hs:∀x,(cells x).length=s) (h:aW cells s base e g n c w l) {k:Nat} (hk:k<l.length):w.there g (k*s) s:=fun j hj=>by
 have h1:k*s+j<n*s:=by
  have:=Nat.mul_le_mul_right s (show k+1≤n by have:=h.1;omega);rw[Nat.succ_mul]at this;omega
 refine⟨?_,h.2.frozenAt _⟩;rw[h.2.cellAt _ h1,jC hs l k hk j hj];simp[hs,hj]
theorem EM (vs:List Value):∀(o:Nat) (w:World) (xs:List Value),w.ownsRow base e s (.slice (some ⟨g,0,none⟩) n c) n xs→o+vs.length≤xs.length →
  (w.setCells g o vs).ownsRow base e s (.slice (some ⟨g,0,none⟩) n c) n (xs.take o++vs++xs.drop (o+vs.length))∧w.grownBy (w.setCells g o vs) (some g):=by
 induction vs with
 |nil=>intro o w xs h _;exact⟨by simpa [World.setCells]using h,iQ _ _⟩
 |cons v r ih =>
  intro o w xs h ho;simp only[List.length_cons]at ho;obtain⟨h1,h2⟩:=h.stored o v;obtain⟨h3,h4⟩:=ih (o+1) _ _ h1 (by simp;omega);refine⟨?_,bD h2 h4⟩;have he:(xs.set o v).take (o+1)++r++(xs.set o v).drop (o+1+r.length)=xs.take o++(v::r)++xs.drop (o+(v::r).length):=by
   rw[List.drop_set_of_lt (by omega),List.take_set,show xs.take (o+1)=xs.take o++[xs[o]] from List.take_succ_eq_append_getElem (by omega)];rw[List.set_append_right _ _ (by simp;omega)];have:o-(xs.take o).length=0:=by simp;omega
   rw[this,List.set_cons_zero,List.length_cons,show o+1+r.length=o+(r.length+1) by omega];simp
  rw[←he];exact h3
theorem aW.store (hs:∀x,(cells x).length=s) (h:aW cells s base e g n c w l) {k:Nat} (hk:k<l.length) (x:α):aW cells s base e g n c (w.setCells g (k*s) (cells x)) (l.set k x)∧w.grownBy (w.setCells g (k*s) (cells x)) (some g):=by
 have hlen:k*s+(cells x).length≤(l.flatMap cells).length:=by
  rw[hs,wZ hs];have:=Nat.mul_le_mul_right s (show k+1≤l.length by omega);rw[Nat.succ_mul]at this;exact this
 obtain⟨h1,h2⟩:=EM (cells x) (k*s) w _ h.2 hlen;refine⟨⟨by simpa using h.1,?_⟩,h2⟩;rw[hs]at h1;rw[QW hs l k hk x];exact h1
end
theorem dL {P:Program} {ops:Array Oper} {rest:List Oper} {op:Oper} {a:Act} {w:World} {Q:Exit→Act→World→Prop} (hgd:op.guard=none) (ty:TypeId) (x y:Operand) (ho:op.op=.store ty x y)
  (b o:Nat) (X:Array Value) (cs:List Value) (hX:cs.toArray=X) (hx:a.eval x=.pointer (some ⟨b,o,none⟩)) (hy:a.eval y=.agg X)
  (ht:w.there b o cs.length) (hi:(P.info? ty).map (·.size)=some cs.length) (h1:∀v∈cs,v.oneCell'=true)
  (h:wpList P ops Q rest (a.put op.dst undef) (w.setCells b o cs)):wpList P ops Q (op::rest) a w:=by
 subst hX;exact wpList_store_mid hgd ty x y ho b o cs.toArray hx hy (by simpa using ht) (by simpa using hi) (all_oneCell_toArray h1) (by simpa using h)
theorem zO {P:Program} {ops:Array Oper} {o:Oper} {a:Act} {t:TypeId} {x y:Operand} {p q r:Int} (ho:o.op=.binOp .sub t x y t) (hg:o.guard=none) (hx:a.eval x=.int .i64 p) (hy:a.eval y=.int .i64 q) (hr:IntKind.i64.wrap (p-q)=r):Yields P ops o (.int .i64 r) a :=
 .inl ⟨by simp[Region.wanted,hg],fun w=>by
  simp only[execOp,ho,hx,hy];simp[go_sem,hr]⟩
end Go.Proofs.YtjidhhfabfnhnaaGreat
