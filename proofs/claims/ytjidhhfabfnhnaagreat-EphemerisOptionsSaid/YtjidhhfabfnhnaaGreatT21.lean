/- A slot that is lost. -/
import Derived.Test.YtjidhhfabfnhnaaGreatT20
namespace Go.Proofs.YtjidhhfabfnhnaaGreat
open Go.RowKit Go.Shelf
attribute [local go_sem] Oper.semAt_some
def ng (g:Int→List Int) (f:Int→Int→Int):List Int→List Int
 |[]=>[]
 |x::r=>r.foldl (fun a y=>List.zipWith f a (g y)) (g x)
theorem Bq (g:Int→List Int) (f:Int→Int→Int) (pre:List Int) (x:Int) (h:pre≠[]):ng g f (pre++[x])=List.zipWith f (ng g f pre) (g x):=by
 cases pre with
 |nil=>exact absurd rfl h
 |cons y r=>simp[ng]
theorem LH {sl:Int} {pre:List Int} {x:Int} (h:pre++[x] <+: eu sl):x = -sl+(pre.length:Int)∧(pre.length:Int)≤2*sl:=by
 obtain⟨r,hr⟩:=h;have h1:(eu sl)[pre.length]?=some x:=by rw[←hr];simp
 have hl:pre.length<(eu sl).length:=by rw[←hr];simp
 have hl2:(eu sl).length=(2*sl+1).toNat:=by simp[eu]
 unfold eu at h1;rw[List.getElem?_map,List.getElem?_range (by omega)]at h1;injection h1 with h1;exact⟨h1.symm,by omega⟩
theorem O6 (O:Array Value) (w:World) :
  Calls Tryz.prog 119 #[.agg O] w fun e w'=>e=.returned (.func (.func 152) #[] #[.pointer (some ⟨w.heap.size,0,none⟩)])∧w'=w.alloc (.cells O 51):=by
 go_enter Tryz.func119,Tryz.ntmps119;go_wp2;go_ret;exact⟨rfl,rfl⟩
theorem FU (ex:Nat→Prop) (B1 bo:Nat) (sl:Int) (P:Array Value) (n:Nat) (hn:1≤n) {w:World} (hB1:B1≤w.heap.size)
  (ko:aG w bo 51 P) (p6:P[6]?=some (.int .i64 sl)) (ho:¬ex bo) (s0:0≤sl) (s10:sl≤10)
  {op:Operand} {p1:Nat} {assign body:Code} {Q:Exit→Act→World→Prop} {a:Act} (hg:a.eval op=.func (.func 152) #[] #[.pointer (some ⟨bo,0,none⟩)])
  (I:List Int→World→Prop) (hI:OwnFrom w.heap.size I) (h0:I [] w)
  (Sm:Array Value→Int→Array Value)
  (hassign:∀(ly:Nat) (x:Int) (W:World) (K:Act→World→Prop),K { tmps:=Sm a.tmps x,defers:=[] } W →
   assign.wpIn (Fence.wide.inRound ly) (n-1-1) Tryz.prog (Exit.then K (fun _ _ _=>False)) { tmps:=a.tmps.setIfInBounds p1 (.int .i64 x),defers:=[] } W)
  (hbody:∀(ly:Nat) (pre:List Int) (x:Int) (W:World),I pre W→pre++[x] <+: eu sl →
   body.wpIn (Fence.wide.inRound ly) (n-1-1) Tryz.prog (ownPostG w.heap.size (iW ex B1 w.heap.size) I (fun _ _ _=>False) (pre++[x]) W) { tmps:=Sm a.tmps x,defers:=[] } W)
  (hdone:∀(D:Nat) (W:World),w.heap.size≤D→I (eu sl) W→W.heap[D]?=some (.deferred (some []))→Q .normal { a with defers:={ target:=.collected D,args:=#[] } :: a.defers } W) :
  (Code.rangeFunc op #[p1] assign body).wpIn Fence.wide n Tryz.prog Q a w:=by
 refine CZ hn hg (enters_of Tryz.func152 (by kernel_rfl) rfl) (Xe ex B1 w.heap.size bo sl P (fun _ _=>True) (n-1) w hB1 (Nat.le_refl _) ko p6 ⟨ho,ko.lt⟩ s0 s10)
  (fun h k=>h.trans k) (fun W l o o' hl ho _=>rW hB1 W l o o' hl ho) (fun _=>rfl) I (fun _ _ _=>False) (fun _ _ _=>trivial) hI (fun _ _ _ _ _ h=>h.elim) h0
  (fun x a' W=>a'={ tmps:=Sm a.tmps x,defers:=[] }) ?_ ?_ ?_ ?_ (fun _ _ _ _ _ _ h=>h.elim)
 ·rintro x a' _ X Y row h1 hgr hr;exact h1
 ·intro ly pre x W K EC hK;have hz:((#[p1].zip (Xd x)).foldl (fun t (p,v)=>t.setIfInBounds p v) a.tmps)=a.tmps.setIfInBounds p1 (.int .i64 x):=by simp[Xd]
  rw[hz];exact hassign ly x W _ (hK _ _ ((KeepsOthers.refl W).from _) ⟨Below.refl _ _,fun _ _ _ _=>rfl⟩ EC rfl)
 ·rintro ly pre x a' W EC rfl hlen;exact hbody ly pre x W EC hlen
 ·rintro D xs W h1 rfl h3 h4;exact hdone D W h1 h3 h4
theorem iW.others {gs gc B B0:Nat} {X Y:World} {A1 A2:Array Value} {t1 t2:TypeId} (h:iW (fun q=>q=gs∨q=gc) B B0 X Y) (hz:X.heap.size≤B0) (h1:aG X gs t1 A1) (h2:aG X gc t2 A2):KeepsOthers X Y :=
 ⟨h.low.size,fun j o hj ho=>by
  have hl:=(Array.getElem?_eq_some_iff.1 hj).1;refine (h.get (by omega) ?_).trans hj;rintro (rfl | rfl)
  ·have e:X.heap[j]?=some (.cells A1 t1 (0,0)):=h1;rw[e]at hj;injection hj with hj;subst hj;cases ho
  ·have e:X.heap[j]?=some (.cells A2 t2 (0,0)):=h2;rw[e]at hj;injection hj with hj;subst hj;cases ho⟩
theorem aW.kE {α:Type} {cells:α→List Value} {s base:Nat} {e:TypeId} {g n c:Nat} {w:World} {l:List α} (h:aW cells s base e g n c w l):∃cur,aG w g e cur:=by
 rcases h.2.2 with ⟨h1,_⟩ | ⟨g',cap,cur,h1,_,h2,_⟩
 ·cases h1
 ·injection h1 with h1;injection h1 with h1;injection h1 with h1;subst h1;exact⟨cur,h2⟩
structure FI (w:World) (g4 g5 g6 g7 g8 g9 B0:Nat) (O:Array Value) (F1:Value) (g:Int→List Int) (pre:List Int) (W:World):Prop where
 k4:aG W g4 51 O
 k5:aG W g5 126 #[F1]
 k6:aG W g6 129 #[.func (.func 59) #[] #[]]
 k7:aG W g7 127 #[.func (.func 57) #[] #[]]
 k8:aG W g8 60 #[.slice none 0 0,.slice none 0 0]
 k9:(pre=[]∧aG W g9 60 #[.slice none 0 0,.slice none 0 0])∨(pre≠[]∧∃gs gc c,aG W g9 60 #[.slice (some ⟨gs,0,none⟩) 24 24,.slice (some ⟨gc,0,none⟩) 24 c]∧aW bW 1 B0 3 gs 24 24 W (ng g jQ pre)∧aW bW 1 B0 3 gc 24 c W (ng g kG pre)∧gs≠gc)
 below:Ext w W
 size:B0≤W.heap.size
theorem fi_own {w:World} {g4 g5 g6 g7 g8 g9 B0:Nat} {O:Array Value} {F1:Value} {g:Int→List Int} (h:w.heap.size≤B0):OwnFrom B0 (FI w g4 g5 g6 g7 g8 g9 B0 O F1 g):=by
 rintro pre X Y row ⟨k4,k5,k6,k7,k8,k9,hb,hz⟩ hgr hr;refine⟨bF k4 hgr hr,bF k5 hgr hr,bF k6 hgr hr,bF k7 hgr hr,bF k8 hgr hr,?_,hb.grown hgr hb.size (fun k e=>Nat.le_trans h (hr k e).1),Nat.le_trans hz hgr.size⟩;rcases k9 with ⟨e,k⟩ | ⟨e,gs,gc,c,k,r1,r2,r3⟩
 ·exact .inl ⟨e,bF k hgr hr⟩
 ·exact .inr ⟨e,gs,gc,c,bF k hgr hr,⟨r1.1,iH r1.2 hgr hr⟩,⟨r2.1,iH r2.2 hgr hr⟩,r3⟩
set_option maxRecDepth 100000 in
set_option maxHeartbeats 2000000 in
theorem O7 (p f lo hi no tu sl:Int) (g:Int→List Int) (caps:Array Value) (w:World) (s0:0≤sl) (s10:sl≤10)
  (hval:∀(la:Int) (W:World),-10≤la→la≤10→Ext w W→Calls Tryz.prog 55 (#[.int .i64 la]++caps) W fun e w'=>(∃v,e=.returned v∧Bo w' W.heap.size v (g la) (g la))∧Ext W w') :
  CallsIn Fence.wide 10 Tryz.prog 58 #[.agg #[.int .i64 p,.int .i64 f,.int .i64 lo,.int .i64 hi,.int .i64 no,.int .i64 tu,.int .i64 sl],.func (.func 55) #[] caps,.func (.func 59) #[] #[],.func (.func 57) #[] #[]] w
   fun e w'=>(∃v,e=.returned v∧Bo w' w.heap.size v (ng g jQ (eu sl)) (ng g kG (eu sl)))∧Ext w w':=by
 have xB:=Lib.hid hval;clear hval;refine callsIn_of_wp_marks Tryz.func58 rfl trivial ?_ rfl;simp only[Tryz.ntmps58,List.size_toArray,List.length_cons,List.length_nil,Nat.reduceAdd,Nat.reduceSub,Array.replicate_succ,Array.replicate_zero,List.push_toArray,List.append_toArray,List.nil_append,List.cons_append];refine wpIn_wide.2 ?_;go_upto_region 1 with (fail);go_upto_region 2 with (fail);generalize hW0:((((((w.alloc (.cells #[.int .i64 p,.int .i64 f,.int .i64 lo,.int .i64 hi,.int .i64 no,.int .i64 tu,.int .i64 sl] 51)).alloc (.cells #[.func (.func 55) #[] caps] 126)).alloc (.cells #[.func (.func 59) #[] #[]] 129)).alloc (.cells #[.func (.func 57) #[] #[]] 127)).alloc (.cells #[.slice none 0 0,.slice none 0 0] 60)).alloc (.cells #[.slice none 0 0,.slice none 0 0] 60))=W0;obtain⟨g4,hg4⟩:∃k,k=w.heap.size:=⟨_,rfl⟩;obtain⟨g5,hg5⟩:∃k,k=w.heap.size+1:=⟨_,rfl⟩;obtain⟨g6,hg6⟩:∃k,k=w.heap.size+1+1:=⟨_,rfl⟩;obtain⟨g7,hg7⟩:∃k,k=w.heap.size+1+1+1:=⟨_,rfl⟩;obtain⟨g8,hg8⟩:∃k,k=w.heap.size+1+1+1+1:=⟨_,rfl⟩;obtain⟨g9,hg9⟩:∃k,k=w.heap.size+1+1+1+1+1:=⟨_,rfl⟩;have K4:aG W0 g4 51 #[.int .i64 p,.int .i64 f,.int .i64 lo,.int .i64 hi,.int .i64 no,.int .i64 tu,.int .i64 sl]:=by subst hW0;exact ((((((aG.bC _ _ _ (by simp[hg4])).alloc _).alloc _).alloc _).alloc _).alloc _)
 have K5:aG W0 g5 126 #[.func (.func 55) #[] caps]:=by subst hW0;exact (((((aG.bC _ _ _ (by simp[hg5])).alloc _).alloc _).alloc _).alloc _)
 have K6:aG W0 g6 129 #[.func (.func 59) #[] #[]]:=by subst hW0;exact ((((aG.bC _ _ _ (by simp[hg6])).alloc _).alloc _).alloc _)
 have K7:aG W0 g7 127 #[.func (.func 57) #[] #[]]:=by subst hW0;exact (((aG.bC _ _ _ (by simp[hg7])).alloc _).alloc _)
 have K8:aG W0 g8 60 #[.slice none 0 0,.slice none 0 0]:=by subst hW0;exact (aG.bC _ _ _ (by simp[hg8])).alloc _
 have K9:aG W0 g9 60 #[.slice none 0 0,.slice none 0 0]:=by subst hW0;exact aG.bC _ _ _ (by simp[hg9])
 have hB:Ext w W0:=by subst hW0;exact aj (aj (aj (aj (aj (aj (Below.refl _ _) _) _) _) _) _) _
 rw[←hg9,←hg8,←hg7,←hg6,←hg5,←hg4];have Jz:Hid (g4≠g9∧g5≠g9∧g6≠g9∧g7≠g9∧g8≠g9):=Lib.hid (by omega);have HG:Hid (w.heap.size≤g8∧w.heap.size≤g9∧g8≠g9):=Lib.hid (by omega);clear hW0 hg4 hg5 hg6 hg7 hg8 hg9;have o0:W0.cell? ⟨g4,0,none⟩=some (.int .i64 p):=K4.cell 0;have o1:W0.cell? ⟨g4,1,none⟩=some (.int .i64 f):=K4.cell 1;have o2:W0.cell? ⟨g4,2,none⟩=some (.int .i64 lo):=K4.cell 2;have o3:W0.cell? ⟨g4,3,none⟩=some (.int .i64 hi):=K4.cell 3;have o4:W0.cell? ⟨g4,4,none⟩=some (.int .i64 no):=K4.cell 4;have o5:W0.cell? ⟨g4,5,none⟩=some (.int .i64 tu):=K4.cell 5;have o6:W0.cell? ⟨g4,6,none⟩=some (.int .i64 sl):=K4.cell 6;go_wp2_with fail;refine (O6 _ _).mono ?_;rintro e W3 ⟨rfl,hW3⟩;have hy:Ext W0 W3:=by subst hW3;exact aj (Below.refl _ _) _
 have ko:aG W3 W0.heap.size 51 #[.int .i64 p,.int .i64 f,.int .i64 lo,.int .i64 hi,.int .i64 no,.int .i64 tu,.int .i64 sl]:=by subst hW3;exact aG.new _ _ _
 have h9l:=K9.lt;have hws:w.heap.size≤W3.heap.size:=Nat.le_trans hB.size hy.size;have h9o:¬W0.heap.size=g9:=by omega
 have hI0:FI w g4 g5 g6 g7 g8 g9 W3.heap.size #[.int .i64 p,.int .i64 f,.int .i64 lo,.int .i64 hi,.int .i64 no,.int .i64 tu,.int .i64 sl] (.func (.func 55) #[] caps) g [] W3:=⟨K4.ext hy,K5.ext hy,K6.ext hy,K7.ext hy,K8.ext hy,.inl ⟨rfl,K9.ext hy⟩,Ext.trans hB hy,Nat.le_refl _⟩;have hg9l:g9<W3.heap.size:=Nat.lt_of_lt_of_le h9l hy.size;have hg4l:g4<W3.heap.size:=Nat.lt_of_lt_of_le K4.lt hy.size;have S_:Hid (g4<W3.heap.size∧g5<W3.heap.size∧g6<W3.heap.size∧g7<W3.heap.size∧g8<W3.heap.size∧g9<W3.heap.size):=Lib.hid ⟨hg4l,(K5.ext hy).lt,(K6.ext hy).lt,(K7.ext hy).lt,(K8.ext hy).lt,hg9l⟩;clear o0 o1 o2 o3 o4 o5 o6 hW3 hy K4 K5 K6 K7 K8 K9 hB h9l hg9l hg4l;go_wp2_with fail;refine wpIn_wide.1 (FU (fun q=>q=g9) w.heap.size W0.heap.size sl #[.int .i64 p,.int .i64 f,.int .i64 lo,.int .i64 hi,.int .i64 no,.int .i64 tu,.int .i64 sl] 10 (by omega) hws ko rfl h9o s0 s10 rfl (FI w g4 g5 g6 g7 g8 g9 W3.heap.size #[.int .i64 p,.int .i64 f,.int .i64 lo,.int .i64 hi,.int .i64 no,.int .i64 tu,.int .i64 sl] (.func (.func 55) #[] caps) g) (fi_own hws) hI0
  (fun t x=>(t.setIfInBounds 14 (.int .i64 x)).setIfInBounds 10 (.int .i64 x)) ?hassign ?hbody ?hdone)
 case hassign =>
  intro ly s W K hK;simp only[List.setIfInBounds_toArray,List.set_cons_zero,List.set_cons_succ]at hK ⊢
  gi_wp2
  exact hK
 case hbody =>
  intro ly pre x W hI hpre;obtain⟨hx,hpl⟩:=LH hpre;simp only[List.setIfInBounds_toArray,List.set_cons_zero,List.set_cons_succ];obtain⟨k4,k5,k6,k7,k8,k9,hbl,hsz⟩:=hI;have f0:W.cell? ⟨g5,0,none⟩=some (.func (.func 55) #[] caps):=k5.cell 0;have hv:=xB.out x W (by omega) (by omega) hbl;have HV:=Lib.hid hv;have HX:=Lib.hid hx;have uQ:=Lib.hid hpl;clear hv hI0 ko hpre hx hpl
  gi_wp2_with fail
  refine⟨trivial,CallsIn.inRound _ (callsIn_wide.2 (HV.out.mono ?_))⟩;rintro e W1 ⟨⟨v,rfl,hst⟩,hy⟩;obtain⟨gs2,gc2,c2,rfl,r3,r4,hne2⟩:=hst.it;have yH:=aG.new W1 60 #[.slice (some ⟨gs2,0,none⟩) 24 24,.slice (some ⟨gc2,0,none⟩) 24 c2];have hx2:Ext W1 (W1.alloc (.cells #[.slice (some ⟨gs2,0,none⟩) 24 24,.slice (some ⟨gc2,0,none⟩) 24 c2] 60)):=aj (Below.refl _ _) _;clear HV hst f0;have hxx:=Ext.trans hy hx2;obtain⟨W2,hW2⟩:∃W2,W1.alloc (.cells #[.slice (some ⟨gs2,0,none⟩) 24 24,.slice (some ⟨gc2,0,none⟩) 24 c2] 60)=W2:=⟨_,rfl⟩;rw[hW2]at yH hx2 hxx;have r3:=r3.ext hx2;have r4:=r4.ext hx2;have k4:=k4.ext hxx;have k5:=k5.ext hxx;have k6:=k6.ext hxx;have k7:=k7.ext hxx;have k8:=k8.ext hxx;have q0:W2.cell? ⟨g4,6,none⟩=some (.int .i64 sl):=k4.cell 6;have t0:W2.cell? ⟨W1.heap.size,0,none⟩=some (.slice (some ⟨gs2,0,none⟩) 24 24):=yH.cell 0;have t1:W2.cell? ⟨W1.heap.size,1,none⟩=some (.slice (some ⟨gc2,0,none⟩) 24 c2):=yH.cell 1;have OY:w.heap.size≤W.heap.size:=hbl.size;have hbl:=Ext.trans hbl hxx;have hsz2:W3.heap.size≤W2.heap.size:=Nat.le_trans hsz hxx.size;have hwn:IntKind.i64.wrap (-sl) = -sl:=IntWalk.i64_in _ (by omega);clear hy hx2;rcases k9 with ⟨hpe,k9⟩ | ⟨hpe,gs,gc,c,k9,r1,r2,hne⟩
  rotate_left
  have HGW:Hid (gs<W.heap.size∧gc<W.heap.size):=Lib.hid ⟨r1.lt,r2.lt⟩
  rotate_left
  ·have hx:x = -sl:=by rw[HX.out,hpe];simp
   subst hx;have q6:W2.cell? ⟨g6,0,none⟩=some (.func (.func 59) #[] #[]):=k6.cell 0
   gi_wp2_with fail
   refine⟨trivial,CallsIn.inRound _ (callsIn_wide.2 ((LD _ _ _ _ _ _ _ rfl rfl).mono ?_))⟩;rintro e W4 ⟨rfl,hy⟩;have k9:=(k9.ext hxx).ext hy;have f0:=k9.frozen 0;have f1:=k9.frozen 1;have c0:W4.cell? ⟨g9,0,none⟩=some (.slice none 0 0):=k9.cell 0;have c1:W4.cell? ⟨g9,1,none⟩=some (.slice none 0 0):=k9.cell 1;have h1:=S_.out;have hns:g9≠gs2:=by have:=(World.ownsRow.lt r3.2 gs2 rfl).1;omega
   have hnc:g9≠gc2:=by have:=(World.ownsRow.lt r4.2 gc2 rfl).1;omega
   have Y0:=Ext.trans hxx hy;have HK:Hid (KeepsOthers W ((W4.setCell ⟨g9,0,none⟩ (.slice (some ⟨gs2,0,none⟩) 24 24)).setCell ⟨g9,1,none⟩ (.slice (some ⟨gc2,0,none⟩) 24 c2))):=Lib.hid ((A_ Y0).trans ((KeepsOthers.setCell _ _ _).trans (KeepsOthers.setCell _ _ _)));have HP:Hid (iW (fun q=>q=g9) w.heap.size W3.heap.size W ((W4.setCell ⟨g9,0,none⟩ (.slice (some ⟨gs2,0,none⟩) 24 24)).setCell ⟨g9,1,none⟩ (.slice (some ⟨gc2,0,none⟩) 24 c2))):=Lib.hid (((iW.ext Y0 hws hsz).trans (iW.step (eG W4 ⟨g9,0,none⟩ _) hws (Nat.le_trans hsz Y0.size) (fun r e=>by cases e;exact .inl ⟨rfl,HG.out.2.1⟩))).trans (iW.step (eG _ ⟨g9,1,none⟩ _) hws (by simpa using Nat.le_trans hsz Y0.size) (fun r e=>by cases e;exact .inl ⟨rfl,HG.out.2.1⟩)));have hkp:∀ {b:Nat} {t:TypeId} {cs:Array Value},aG W2 b t cs→b≠g9→aG ((W4.setCell ⟨g9,0,none⟩ (.slice (some ⟨gs2,0,none⟩) 24 24)).setCell ⟨g9,1,none⟩ (.slice (some ⟨gc2,0,none⟩) 24 c2)) b t cs:=fun hb hn=>((hb.ext hy).far (p:=⟨g9,0,none⟩) hn _).far (p:=⟨g9,1,none⟩) hn _;have HI:Hid (FI w g4 g5 g6 g7 g8 g9 W3.heap.size #[.int .i64 p,.int .i64 f,.int .i64 lo,.int .i64 hi,.int .i64 no,.int .i64 tu,.int .i64 sl] (.func (.func 55) #[] caps) g (pre++[-sl]) ((W4.setCell ⟨g9,0,none⟩ (.slice (some ⟨gs2,0,none⟩) 24 24)).setCell ⟨g9,1,none⟩ (.slice (some ⟨gc2,0,none⟩) 24 c2))):=by
    have k9b:aG (W2.setCell ⟨g9,0,none⟩ (.slice none 0 0)) g9 60 #[.slice none 0 0,.slice none 0 0]∨True:=.inr trivial;clear k9b;have hr3:=jG (jG (r3.ext hy) (p:=⟨g9,0,none⟩) (Ne.symm hns) (.slice (some ⟨gs2,0,none⟩) 24 24)) (p:=⟨g9,1,none⟩) (Ne.symm hns) (.slice (some ⟨gc2,0,none⟩) 24 c2);have hr4:=jG (jG (r4.ext hy) (p:=⟨g9,0,none⟩) (Ne.symm hnc) (.slice (some ⟨gs2,0,none⟩) 24 24)) (p:=⟨g9,1,none⟩) (Ne.symm hnc) (.slice (some ⟨gc2,0,none⟩) 24 c2);refine Lib.hid ⟨hkp k4 Jz.out.1,hkp k5 Jz.out.2.1,hkp k6 Jz.out.2.2.1,hkp k7 Jz.out.2.2.2.1,hkp k8 Jz.out.2.2.2.2,.inr ⟨by simp,gs2,gc2,c2,(k9.cZ 0 _).cZ 1 _,?_,?_,hne2⟩,((Ext.trans hbl hy).setCell (p:=⟨g9,0,none⟩) HG.out.2.1 _).setCell (p:=⟨g9,1,none⟩) HG.out.2.1 _,Nat.le_trans hsz HK.out.size⟩
    ·rw[hpe,List.nil_append,ng,List.foldl_nil];exact⟨hr3.1,own_base hr3.2 hsz⟩
    ·rw[hpe,List.nil_append,ng,List.foldl_nil];exact⟨hr4.1,own_base hr4.2 hsz⟩
   clear k4 k5 k6 k7 k8 k9 r3 r4 hkp Y0 hy hxx hbl hsz OY hsz2 hns hnc q0 q6 t0 t1 yH h1
   gi_wp2_with fail
   exact⟨HK.out.from _,HP.out,HI.out⟩
  ·have hxn:¬x = -sl:=fun e=>hpe (List.eq_nil_of_length_eq_zero (by have:=HX.out;omega));have hxb:(x == -sl)=false:=by simpa using hxn
   have k9:=k9.ext hxx;have r1:=r1.ext hxx;have r2:=r2.ext hxx;have q7:W2.cell? ⟨g7,0,none⟩=some (.func (.func 57) #[] #[]):=k7.cell 0;have w0:W2.cell? ⟨g9,0,none⟩=some (.slice (some ⟨gs,0,none⟩) 24 24):=k9.cell 0;have w1:W2.cell? ⟨g9,1,none⟩=some (.slice (some ⟨gc,0,none⟩) 24 c):=k9.cell 1;have l1:=(World.ownsRow.lt r1.2 gs rfl);have l2:=(World.ownsRow.lt r2.2 gc rfl);have l3:=(World.ownsRow.lt r3.2 gs2 rfl);have l4:=(World.ownsRow.lt r4.2 gc2 rfl);have hgsW:gs<W.heap.size∧gc<W.heap.size:=HGW.out;have hs2:=LG W3.heap.size W.heap.size gs gc c gs2 gc2 c2 _ _ _ _ W2 r1 r2 r3 r4 hne (by omega) (by omega) (by omega) (by omega);rw[←Bq g jQ pre x hpe,←Bq g kG pre x hpe]at hs2;have HS2:=Lib.hid hs2;clear hs2
   gi_wp2_with fail
   refine⟨trivial,CallsIn.inRound _ (callsIn_wide.2 (HS2.out.mono ?_))⟩;rintro e W4 ⟨rfl,r5,r6,hkb⟩;have h1:=S_.out;have hlow:∀ {b:Nat} {t:TypeId} {cs:Array Value},aG W2 b t cs→b<W3.heap.size→aG W4 b t cs:=fun hb hl=>(hkb.low.block _ hl).trans hb;obtain⟨cu1,hcu1⟩:=r1.kE;obtain⟨cu2,hcu2⟩:=r2.kE;have hko:KeepsOthers W2 W4:=hkb.others (Nat.le_refl _) hcu1 hcu2;have k9:=hlow k9 h1.2.2.2.2.2;have f0:=k9.frozen 0;have f1:=k9.frozen 1;have c0:W4.cell? ⟨g9,0,none⟩=some (.slice (some ⟨gs,0,none⟩) 24 24):=k9.cell 0;have c1:W4.cell? ⟨g9,1,none⟩=some (.slice (some ⟨gc,0,none⟩) 24 c):=k9.cell 1;have hns:g9≠gs:=by omega
   have hnc:g9≠gc:=by omega
   have hz4:W3.heap.size≤W4.heap.size:=Nat.le_trans hsz2 hkb.low.size;have hk4:iW (fun q=>q=g9) w.heap.size W3.heap.size W2 W4:=⟨hkb.low.mono hws,fun k _ hk _=>hkb.low.block k hk⟩;have HK:Hid (KeepsOthers W ((W4.setCell ⟨g9,0,none⟩ (.slice (some ⟨gs,0,none⟩) 24 24)).setCell ⟨g9,1,none⟩ (.slice (some ⟨gc,0,none⟩) 24 c))):=Lib.hid ((A_ hxx).trans (hko.trans ((KeepsOthers.setCell _ _ _).trans (KeepsOthers.setCell _ _ _))));have HP:Hid (iW (fun q=>q=g9) w.heap.size W3.heap.size W ((W4.setCell ⟨g9,0,none⟩ (.slice (some ⟨gs,0,none⟩) 24 24)).setCell ⟨g9,1,none⟩ (.slice (some ⟨gc,0,none⟩) 24 c))):=Lib.hid ((((iW.ext hxx hws hsz).trans hk4).trans (iW.step (eG W4 ⟨g9,0,none⟩ _) hws hz4 (fun r e=>by cases e;exact .inl ⟨rfl,HG.out.2.1⟩))).trans (iW.step (eG _ ⟨g9,1,none⟩ _) hws (by simpa using hz4) (fun r e=>by cases e;exact .inl ⟨rfl,HG.out.2.1⟩)));have hkp:∀ {b:Nat} {t:TypeId} {cs:Array Value},aG W2 b t cs→b<W3.heap.size→b≠g9→aG ((W4.setCell ⟨g9,0,none⟩ (.slice (some ⟨gs,0,none⟩) 24 24)).setCell ⟨g9,1,none⟩ (.slice (some ⟨gc,0,none⟩) 24 c)) b t cs:=fun hb hl hn=>((hlow hb hl).far (p:=⟨g9,0,none⟩) hn _).far (p:=⟨g9,1,none⟩) hn _;have HI:Hid (FI w g4 g5 g6 g7 g8 g9 W3.heap.size #[.int .i64 p,.int .i64 f,.int .i64 lo,.int .i64 hi,.int .i64 no,.int .i64 tu,.int .i64 sl] (.func (.func 55) #[] caps) g (pre++[x]) ((W4.setCell ⟨g9,0,none⟩ (.slice (some ⟨gs,0,none⟩) 24 24)).setCell ⟨g9,1,none⟩ (.slice (some ⟨gc,0,none⟩) 24 c))):=by
    have hr3:=jG (jG r5 (p:=⟨g9,0,none⟩) (Ne.symm hns) (.slice (some ⟨gs,0,none⟩) 24 24)) (p:=⟨g9,1,none⟩) (Ne.symm hns) (.slice (some ⟨gc,0,none⟩) 24 c);have hr4:=jG (jG r6 (p:=⟨g9,0,none⟩) (Ne.symm hnc) (.slice (some ⟨gs,0,none⟩) 24 24)) (p:=⟨g9,1,none⟩) (Ne.symm hnc) (.slice (some ⟨gc,0,none⟩) 24 c);have hb4:Ext w W4:=Below.trans hbl (hkb.low.mono hws);exact Lib.hid ⟨hkp k4 h1.1 Jz.out.1,hkp k5 h1.2.1 Jz.out.2.1,hkp k6 h1.2.2.1 Jz.out.2.2.1,hkp k7 h1.2.2.2.1 Jz.out.2.2.2.1,hkp k8 h1.2.2.2.2.1 Jz.out.2.2.2.2,.inr ⟨by simp,gs,gc,c,(k9.cZ 0 _).cZ 1 _,hr3,hr4,hne⟩,(hb4.setCell (p:=⟨g9,0,none⟩) HG.out.2.1 _).setCell (p:=⟨g9,1,none⟩) HG.out.2.1 _,Nat.le_trans hsz HK.out.size⟩
   clear k4 k5 k6 k7 k8 k9 r1 r2 r3 r4 r5 r6 hkp hxx hbl hsz OY hsz2 hns hnc q0 q7 w0 w1 t0 t1 yH h1 l1 l2 l3 l4 hgsW hkb hlow hcu1 hcu2 hko hz4 hk4
   gi_wp2_with fail
   exact⟨HK.out.from _,HP.out,HI.out⟩
 case hdone =>
  intro D W hD hI hK;obtain⟨k4,k5,k6,k7,k8,k9,hbl,hsz⟩:=hI;rcases k9 with ⟨hpe,k9⟩ | ⟨hpe,gs,gc,c,k9,r1,r2,hne⟩
  ·have h:=congrArg List.length hpe;simp[eu]at h;omega
  ·have w0:W.cell? ⟨g9,0,none⟩=some (.slice (some ⟨gs,0,none⟩) 24 24):=k9.cell 0;have w1:W.cell? ⟨g9,1,none⟩=some (.slice (some ⟨gc,0,none⟩) 24 c):=k9.cell 1;have l1:=(World.ownsRow.lt r1.2 gs rfl);have l2:=(World.ownsRow.lt r2.2 gc rfl);have h1:=S_.out;have k8s:=k8.row #[.slice (some ⟨gs,0,none⟩) 24 24,.slice (some ⟨gc,0,none⟩) 24 c];have hr1:=gW r1 (setRow_other W g8 gs #[.slice (some ⟨gs,0,none⟩) 24 24,.slice (some ⟨gc,0,none⟩) 24 c] (by omega));have hr2:=gW r2 (setRow_other W g8 gc #[.slice (some ⟨gs,0,none⟩) 24 24,.slice (some ⟨gc,0,none⟩) 24 c] (by omega));have hbs:=hbl.grown (sK W g8 #[.slice (some ⟨gs,0,none⟩) 24 24,.slice (some ⟨gc,0,none⟩) 24 c]) hbl.size (fun q e=>by cases e;exact HG.out.1);have hKs:(W.setRow g8 #[.slice (some ⟨gs,0,none⟩) 24 24,.slice (some ⟨gc,0,none⟩) 24 c]).heap[D]?=some (.deferred (some [])):=(setRow_other W g8 D _ (by omega)).trans hK;have HA:=Lib.hid k8s;have HR1:=Lib.hid hr1;have HR2:=Lib.hid hr2;have HB:=Lib.hid hbs;have HK:=Lib.hid hKs;have HK8:=Lib.hid k8;clear hI0 ko k4 k5 k6 k7 k8 k9 r1 r2 k8s hr1 hr2 hbs hKs hK hbl l1 l2;go_wp2_with (refine wpList_store_row rfl 60 _ _ rfl g8 #[.slice (some ⟨gs,0,none⟩) 24 24,.slice (some ⟨gc,0,none⟩) 24 c] rfl rfl 60 _ HK8.out dJ rfl (by simp[Value.oneCell']) ?_);refine⟨by simp,.inl ⟨_,_,rfl,run_takeDeferred HK.out,?_⟩⟩;have hgr:=grownBy_putObj' (W.setRow g8 #[.slice (some ⟨gs,0,none⟩) 24 24,.slice (some ⟨gc,0,none⟩) 24 c]) D (.deferred none);have hrr:∀r,some D=some r→w.heap.size≤r∧∃o:Obj,(W.setRow g8 #[.slice (some ⟨gs,0,none⟩) 24 24,.slice (some ⟨gc,0,none⟩) 24 c]).heap[r]?=some o∧o.isCells=false:=fun r e=>by cases e;exact⟨by omega,_,HK.out,rfl⟩
   have HA2:=bF HA.out hgr hrr;exact⟨_,gG Tryz.results58 _ _ g8 _ rfl HA2 _ Tryz.underlying60 rfl dJ,⟨_,rfl,⟨gs,gc,c,rfl,⟨HR1.out.1,own_base (iH HR1.out.2 hgr hrr) hws⟩,⟨HR2.out.1,own_base (iH HR2.out.2 hgr hrr) hws⟩,hne⟩⟩,HB.out.grown hgr HB.out.size (fun k e=>by cases e;omega)⟩
end Go.Proofs.YtjidhhfabfnhnaaGreat
namespace Go.Proofs.YtjidhhfabfnhnaaGreat
open Go.RowKit Go.Shelf
attribute [local go_sem] Oper.semAt_some
def Bv (o:iM) (look a b:Int) (la:Int):List Int:=wu o look la a b
def iC (o:iM) (a b look:Int):Option (List Int×List Int):=if qP o a b look=true then some (ng (Bv o look a b) jQ (eu o.dP),ng (Bv o look a b) kG (eu o.dP)) else none
def IC (r:Option (List Int×List Int)) (w:World) (e:Ending) (w':World):Prop:=match r with
 |none=>e=.returned (.tuple #[.agg #[.slice none 0 0,.slice none 0 0],.int .i64 80])∧Ext w w'
 |some (S,C)=>(∃v,e=.returned (.tuple #[v,.int .i64 0])∧Bo w' w.heap.size v S C)∧Ext w w'
set_option maxRecDepth 100000 in
set_option maxHeartbeats 2000000 in
theorem yK (p f lo hi no tu sl a b look:Int) (w:World) :
  Calls Tryz.prog 19 #[.agg #[.int .i64 p,.int .i64 f,.int .i64 lo,.int .i64 hi,.int .i64 no,.int .i64 tu,.int .i64 sl],.agg #[.int .i64 a,.int .i64 b],.int .i64 look] w (IC (iC ⟨p,f,lo,hi,no,tu,sl⟩ a b look) w):=by
 have hval:=fun W=>Iy p f lo hi no tu sl a b look W;obtain⟨R,hR⟩:∃R,R=iC ⟨p,f,lo,hi,no,tu,sl⟩ a b look:=⟨_,rfl⟩;rw[←hR];unfold iC at hR;obtain⟨q,hq⟩:∃q,q=qP ⟨p,f,lo,hi,no,tu,sl⟩ a b look:=⟨_,rfl⟩;rw[←hq]at hR hval;have HR:=Lib.hid hR;have HQ:=Lib.hid hq;have xB:=Lib.hid hval;clear hR hq hval;go_enter Tryz.func19,Tryz.ntmps19;go_upto_region 1 with (fail);generalize hW0:((((w.alloc (.cells #[.int .i64 p,.int .i64 f,.int .i64 lo,.int .i64 hi,.int .i64 no,.int .i64 tu,.int .i64 sl] 51)).alloc (.cells #[.int .i64 a,.int .i64 b] 32)).alloc (.cells #[.int .i64 look] 3)).alloc (.cells #[.slice none 0 0,.slice none 0 0] 60))=W0;obtain⟨g3,hg3⟩:∃k,k=w.heap.size:=⟨_,rfl⟩;obtain⟨g4,hg4⟩:∃k,k=w.heap.size+1:=⟨_,rfl⟩;obtain⟨g5,hg5⟩:∃k,k=w.heap.size+1+1:=⟨_,rfl⟩;obtain⟨g6,hg6⟩:∃k,k=w.heap.size+1+1+1:=⟨_,rfl⟩;have K3:aG W0 g3 51 #[.int .i64 p,.int .i64 f,.int .i64 lo,.int .i64 hi,.int .i64 no,.int .i64 tu,.int .i64 sl]:=by subst hW0;exact ((((aG.bC _ _ _ (by simp[hg3])).alloc _).alloc _).alloc _)
 have K4:aG W0 g4 32 #[.int .i64 a,.int .i64 b]:=by subst hW0;exact (((aG.bC _ _ _ (by simp[hg4])).alloc _).alloc _)
 have K5:aG W0 g5 3 #[.int .i64 look]:=by subst hW0;exact (aG.bC _ _ _ (by simp[hg5])).alloc _
 have K6:aG W0 g6 60 #[.slice none 0 0,.slice none 0 0]:=by subst hW0;exact aG.bC _ _ _ (by simp[hg6])
 have hB:Ext w W0:=by subst hW0;exact aj (aj (aj (aj (Below.refl _ _) _) _) _) _
 rw[←hg6,←hg5,←hg4,←hg3];have NI:Hid (w.heap.size≤g6):=Lib.hid (by omega);clear hW0 hg3 hg4 hg5 hg6;have o0:W0.cell? ⟨g3,0,none⟩=some (.int .i64 p):=K3.cell 0;have o1:W0.cell? ⟨g3,1,none⟩=some (.int .i64 f):=K3.cell 1;have o2:W0.cell? ⟨g3,2,none⟩=some (.int .i64 lo):=K3.cell 2;have o3:W0.cell? ⟨g3,3,none⟩=some (.int .i64 hi):=K3.cell 3;have o4:W0.cell? ⟨g3,4,none⟩=some (.int .i64 no):=K3.cell 4;have o5:W0.cell? ⟨g3,5,none⟩=some (.int .i64 tu):=K3.cell 5;have o6:W0.cell? ⟨g3,6,none⟩=some (.int .i64 sl):=K3.cell 6;have s0:W0.cell? ⟨g4,0,none⟩=some (.int .i64 a):=K4.cell 0;have s1:W0.cell? ⟨g4,1,none⟩=some (.int .i64 b):=K4.cell 1;have l0:W0.cell? ⟨g5,0,none⟩=some (.int .i64 look):=K5.cell 0;go_wp2_with fail;refine (xB.out _).mono ?_;rintro e W1 ⟨rfl,hy⟩;have K3:=K3.ext hy;have K4:=K4.ext hy;have K5:=K5.ext hy;have K6:=K6.ext hy;have hB:=Ext.trans hB hy;clear o0 o1 o2 o3 o4 o5 o6 s0 s1 l0 hy;cases q
 ·have HR0:Hid (R=none):=Lib.hid (by rw[HR.out];simp);have HK6:=Lib.hid K6;have Ci:=Lib.hid (K6.row #[.slice none 0 0,.slice none 0 0]);have HB:=Lib.hid (below_setRow hB (g:=g6) NI.out #[.slice none 0 0,.slice none 0 0]);clear K3 K4 K5 K6 hB HR;go_wp2_with (refine wpList_store_row rfl 60 _ _ rfl g6 #[.slice none 0 0,.slice none 0 0] rfl rfl 60 _ HK6.out dJ rfl (by simp[Value.oneCell']) ?_);exact bodyPost_ret (fU Tryz.results19 _ _ g6 _ (.int .i64 80) rfl rfl Ci.out _ Tryz.underlying60 rfl dJ) rfl (by rw[HR0.out];exact⟨rfl,HB.out⟩)
 ·have hv:qP ⟨p,f,lo,hi,no,tu,sl⟩ a b look=true:=HQ.out.symm;have hsl:0≤sl∧sl≤10:=by
   have h:=hv;have hb:∀n lo hi:Int,inB n lo hi=true↔lo≤n∧n≤hi:=fun n lo hi=>by simp[inB]
   simp only[qP,dw,Bool.and_eq_true,hb]at h;exact h.1.1.2
  have HR0:Hid (R=some (ng (Bv ⟨p,f,lo,hi,no,tu,sl⟩ look a b) jQ (eu sl),ng (Bv ⟨p,f,lo,hi,no,tu,sl⟩ look a b) kG (eu sl))):=Lib.hid (by rw[HR.out];simp);have hf:=callsIn_wide.1 (O7 p f lo hi no tu sl (Bv ⟨p,f,lo,hi,no,tu,sl⟩ look a b) #[.pointer (some ⟨g3,0,none⟩),.pointer (some ⟨g4,0,none⟩),.pointer (some ⟨g5,0,none⟩)] W1 hsl.1 hsl.2 (fun la W h1 h2 hx=>LC g3 g4 g5 p f lo hi no tu sl a b look la hv ⟨h1,h2⟩ W (K3.ext hx) (K4.ext hx) (K5.ext hx)));generalize ng (Bv ⟨p,f,lo,hi,no,tu,sl⟩ look a b) jQ (eu sl)=S at hf HR0;generalize ng (Bv ⟨p,f,lo,hi,no,tu,sl⟩ look a b) kG (eu sl)=C at hf HR0;have HF:=Lib.hid hf;have o0:W1.cell? ⟨g3,0,none⟩=some (.int .i64 p):=K3.cell 0;have o1:W1.cell? ⟨g3,1,none⟩=some (.int .i64 f):=K3.cell 1;have o2:W1.cell? ⟨g3,2,none⟩=some (.int .i64 lo):=K3.cell 2;have o3:W1.cell? ⟨g3,3,none⟩=some (.int .i64 hi):=K3.cell 3;have o4:W1.cell? ⟨g3,4,none⟩=some (.int .i64 no):=K3.cell 4;have o5:W1.cell? ⟨g3,5,none⟩=some (.int .i64 tu):=K3.cell 5;have o6:W1.cell? ⟨g3,6,none⟩=some (.int .i64 sl):=K3.cell 6;clear hf hv HR HQ;go_wp2_with fail;refine HF.out.mono ?_;rintro e W2 ⟨⟨v,rfl,hst⟩,hy⟩;obtain⟨gs,gc,c,rfl,r1,r2,hne⟩:=hst.it;have K6:=K6.ext hy;have hB2:=Ext.trans hB hy;have l1:=(World.ownsRow.lt r1.2 gs rfl);have l2:=(World.ownsRow.lt r2.2 gc rfl);have hsz:=hB.size;have h6s:gs≠g6:=fun e=>bQ r1.2 K6 (by decide) (by rw[←e];rfl);have h6c:gc≠g6:=fun e=>bQ r2.2 K6 (by decide) (by rw[←e];rfl);have hr1:=gW r1 (setRow_other W2 g6 gs #[.slice (some ⟨gs,0,none⟩) 24 24,.slice (some ⟨gc,0,none⟩) 24 c] h6s);have hr2:=gW r2 (setRow_other W2 g6 gc #[.slice (some ⟨gs,0,none⟩) 24 24,.slice (some ⟨gc,0,none⟩) 24 c] h6c);have HK6:=Lib.hid K6;have Ci:=Lib.hid (K6.row #[.slice (some ⟨gs,0,none⟩) 24 24,.slice (some ⟨gc,0,none⟩) 24 c]);have HB:=Lib.hid (below_setRow hB2 (g:=g6) NI.out #[.slice (some ⟨gs,0,none⟩) 24 24,.slice (some ⟨gc,0,none⟩) 24 c]);have HR1:Hid (aW bW 1 w.heap.size 3 gs 24 24 (W2.setRow g6 #[.slice (some ⟨gs,0,none⟩) 24 24,.slice (some ⟨gc,0,none⟩) 24 c]) S):=Lib.hid ⟨hr1.1,own_base hr1.2 hsz⟩;have HR2:Hid (aW bW 1 w.heap.size 3 gc 24 c (W2.setRow g6 #[.slice (some ⟨gs,0,none⟩) 24 24,.slice (some ⟨gc,0,none⟩) 24 c]) C):=Lib.hid ⟨hr2.1,own_base hr2.2 hsz⟩;clear K3 K4 K5 K6 hB hB2 hst r1 r2 hr1 hr2 l1 l2 h6s h6c hy o0 o1 o2 o3 o4 o5 o6 HF hsz;go_wp2_with (refine wpList_store_row rfl 60 _ _ rfl g6 #[.slice (some ⟨gs,0,none⟩) 24 24,.slice (some ⟨gc,0,none⟩) 24 c] rfl rfl 60 _ HK6.out dJ rfl (by simp[Value.oneCell']) ?_);exact bodyPost_ret (fU Tryz.results19 _ _ g6 _ (.int .i64 0) rfl rfl Ci.out _ Tryz.underlying60 rfl dJ) rfl (by rw[HR0.out];exact⟨⟨_,rfl,⟨gs,gc,c,rfl,HR1.out,HR2.out,hne⟩⟩,HB.out⟩)
end Go.Proofs.YtjidhhfabfnhnaaGreat
namespace Go.Proofs.YtjidhhfabfnhnaaGreat
open Go.RowKit Go.Shelf
attribute [local go_sem] Oper.semAt_some
theorem FV {α:Type} {xs ys:List α} {k:Nat} (h:xs.take k=ys.take k) (hx:k<xs.length) (hy:k<ys.length) (he:xs[k]=ys[k]):xs.take (k+1)=ys.take (k+1):=by
 rw[List.take_succ_eq_append_getElem hx,List.take_succ_eq_append_getElem hy,h,he]
theorem ne_at {α:Type} {xs ys:List α} {k:Nat} (hx:k<xs.length) (hy:k<ys.length) (he:¬xs[k]=ys[k]):¬xs=ys:=by
 rintro rfl;exact he rfl
theorem zu {base g n c:Nat} {w:World} {l:List Int} (h:aW bW 1 base 3 g n c w l) (hn:n≤1000000):RA bW 1 w w.heap.size (some ⟨g,0,none⟩) n c l:=h.ra hn
theorem LJ (A1 A2:Option Addr) (n1 n2 c1 c2:Nat) (xs ys:List Int) (w:World) (h1:RA bW 1 w w.heap.size A1 n1 c1 xs) (h2:RA bW 1 w w.heap.size A2 n2 c2 ys) :
  Calls Tryz.prog 60 #[.slice A1 n1 c1,.slice A2 n2 c2] w fun e w'=>e=.returned (.bool (decide (xs=ys)))∧Ext w w':=by
 have hn1:n1≤9223372036854775807:=h1.le;have hn2:n2≤9223372036854775807:=h2.le;have L1:Hid (xs.length=n1):=h1.len;have L2:Hid (ys.length=n2):=h2.len;have H1:=Lib.hid h1;have H2:=Lib.hid h2;clear h1 h2;by_cases hne:n1=n2
 ·subst hne;have hd:((n1:Int) != (n1:Int))=false:=by simp
  go_enter Tryz.func60,Tryz.ntmps60;go_wp2;go_loopw [13] (fun i wr=>∃k:Nat,k≤n1∧i=.int .i64 k∧Hid (xs.take k=ys.take k)∧Below w.heap.size w wr) (fun i _=>n1-(intOf i).toNat)
  case atStart=>exact⟨0,Nat.zero_le _,rfl,rfl,Below.refl _ _⟩
  case round =>
   obtain⟨k,hk,rfl,H,hB⟩:=hrel;by_cases hlt:k<n1
   ·obtain⟨b,o,hz,hA,hb,hc⟩:=RA.range kW (H1.out.below hB) hlt;obtain⟨b',o',hz',hA',hb',hc'⟩:=RA.range kW (H2.out.below hB) hlt;subst hA hA';have hstep:=FV (k:=k) H.out hz hz';have hstop:=ne_at (k:=k) hz hz';generalize xs[k]=x at hc hstep hstop;generalize ys[k]=y at hc' hstep hstop;have d0:wr.cell? ⟨b,o+k,none⟩=some (.int .i64 x):=by have h:=hc 0 (.int .i64 x) rfl;rwa[Nat.mul_one,Nat.add_zero]at h
    have d1:wr.cell? ⟨b',o'+k,none⟩=some (.int .i64 y):=by have h:=hc' 0 (.int .i64 y) rfl;rwa[Nat.mul_one,Nat.add_zero]at h
    clear hc hc';by_cases hxy:x=y
    ·have HS:=Lib.hid (hstep hxy);clear hstep hstop;subst hxy;have he:(x != x)=false:=by simp
     go_wp2;go_quiet (fail)
     go_wp2;go_roundw
     case rel=>exact⟨k+1,by omega,by go_num,HS.out,(by repeat (first | exact Below.refl _ _ | assumption | refine Below.drew ?_ | refine below_drewN ?_ _ | refine aj ?_ _ | refine Below.setCell ?_ (by first | (simp;done) | omega | (simp;omega)) _ | refine aA ?_ (by assumption)))⟩
     case measure=>simp[intOf];omega
    ·have he:(x != y)=true:=by simp[hxy]
     have HX:=Lib.hid (hstop hxy);clear hxy hstep hstop;go_wp2;go_quiet (fail)
     go_wp2;go_ret;exact⟨by rw[decide_eq_false HX.out];rfl,(by repeat (first | exact Below.refl _ _ | assumption | refine Below.drew ?_ | refine below_drewN ?_ _ | refine aj ?_ _ | refine Below.setCell ?_ (by first | (simp;done) | omega | (simp;omega)) _ | refine aA ?_ (by assumption)))⟩
   ·go_wp2;go_ret;refine⟨?_,(by repeat (first | exact Below.refl _ _ | assumption | refine Below.drew ?_ | refine below_drewN ?_ _ | refine aj ?_ _ | refine Below.setCell ?_ (by first | (simp;done) | omega | (simp;omega)) _ | refine aA ?_ (by assumption)))⟩;have hxy:xs=ys:=by
     have:=H.out;rwa[List.take_of_length_le (by rw[L1.out];omega),List.take_of_length_le (by rw[L2.out];omega)]at this
    rw[decide_eq_true hxy];rfl
 ·have hd:((n1:Int) != (n2:Int))=true:=by simp;omega
  have hxy:¬xs=ys:=by
   rintro rfl;exact hne (L1.out.symm.trans L2.out)
  rw[decide_eq_false hxy];clear hxy;go_enter Tryz.func60,Tryz.ntmps60;go_wp2;go_ret;exact⟨rfl,Below.refl _ _⟩
theorem wE (A1 A2:Option Addr) (n1 n2 c1 c2:Nat) (xs ys:List Int) (w:World) (h1:RA bW 1 w w.heap.size A1 n1 c1 xs) (h2:RA bW 1 w w.heap.size A2 n2 c2 ys) :
  Calls Tryz.prog 20 #[.agg #[.slice A1 n1 c1],.agg #[.slice A2 n2 c2]] w fun e w'=>e=.returned (.bool (decide (xs=ys)))∧Ext w w':=by
 have hx:Ext w ((w.alloc (.cells #[.slice A1 n1 c1] 58)).alloc (.cells #[.slice A2 n2 c2] 58)):=aj (aj (Below.refl _ _) _) _;have HE:=Lib.hid (LJ A1 A2 n1 n2 c1 c2 xs ys ((w.alloc (.cells #[.slice A1 n1 c1] 58)).alloc (.cells #[.slice A2 n2 c2] 58)) (aB h1 hx) (aB h2 hx));have HX:=Lib.hid hx;generalize decide (xs=ys)=q at HE⊢;clear h1 h2 hx;go_enter Tryz.func20,Tryz.ntmps20;go_wp2_with fail;refine HE.out.mono ?_;rintro e W ⟨rfl,hy⟩;have HY:=Lib.hid (Ext.trans HX.out hy);clear hy;go_wp2;go_ret;exact⟨rfl,HY.out⟩
end Go.Proofs.YtjidhhfabfnhnaaGreat
namespace Go.Proofs.YtjidhhfabfnhnaaGreat
open Go.RowKit Go.Shelf
attribute [local go_sem] Oper.semAt_some
def fH (sat Qw fr tt:Int) (q:bP):Bool:=(q.sat==sat)&&((q.dh==Qw)&&(decide (q.sure.fr≤fr)&&decide (tt≤q.sure.tt)))
def ni (old now:List bP) (s:xu):Bool:=match old[s.p.toNat]? with
 |none=>true
 |some p=>if s.p<0∨s.fr≥s.tt then true else !(now.any (fH p.sat p.dh s.fr s.tt))
set_option maxHeartbeats 1000000 in
theorem O8 (q:bP) (gp gs:Nat) (sat Qw fr tt:Int) (w:World) (P S:Array Value) (kp:aG w gp 75 P) (p0:P[0]?=some (.int .i64 sat)) (p1:P[1]?=some (.int .i64 Qw)) (ks:aG w gs 103 S) (z1:S[1]?=some (.int .i64 fr)) (z2:S[2]?=some (.int .i64 tt)) :
  Calls Tryz.prog 101 #[.agg (ak q).toArray,.pointer (some ⟨gp,0,none⟩),.pointer (some ⟨gs,0,none⟩)] w fun e w'=>e=.returned (.bool (fH sat Qw fr tt q))∧Ext w w':=by
 obtain⟨qs,qn,⟨qa,qb⟩,⟨qc,qd⟩⟩:=q
 show Calls Tryz.prog 101 #[.agg #[.int .i64 qs,.int .i64 qn,.int .i64 qa,.int .i64 qb,.int .i64 qc,.int .i64 qd],_,_] w _
 have hx:Ext w (w.alloc (.cells #[.int .i64 qs,.int .i64 qn,.int .i64 qa,.int .i64 qb,.int .i64 qc,.int .i64 qd] 75)):=aj (Below.refl _ _) _;have c0:(w.alloc (.cells #[.int .i64 qs,.int .i64 qn,.int .i64 qa,.int .i64 qb,.int .i64 qc,.int .i64 qd] 75)).cell? ⟨gp,0,none⟩=some (.int .i64 sat):=by rw[(kp.ext hx).cell];exact p0
 have c1:(w.alloc (.cells #[.int .i64 qs,.int .i64 qn,.int .i64 qa,.int .i64 qb,.int .i64 qc,.int .i64 qd] 75)).cell? ⟨gp,1,none⟩=some (.int .i64 Qw):=by rw[(kp.ext hx).cell];exact p1
 have c2:(w.alloc (.cells #[.int .i64 qs,.int .i64 qn,.int .i64 qa,.int .i64 qb,.int .i64 qc,.int .i64 qd] 75)).cell? ⟨gs,1,none⟩=some (.int .i64 fr):=by rw[(ks.ext hx).cell];exact z1
 have c3:(w.alloc (.cells #[.int .i64 qs,.int .i64 qn,.int .i64 qa,.int .i64 qb,.int .i64 qc,.int .i64 qd] 75)).cell? ⟨gs,2,none⟩=some (.int .i64 tt):=by rw[(ks.ext hx).cell];exact z2
 have J:=aG.new w 75 #[.int .i64 qs,.int .i64 qn,.int .i64 qa,.int .i64 qb,.int .i64 qc,.int .i64 qd];have HX:=Lib.hid hx;clear hx kp ks p0 p1 z1 z2;by_cases h1:qs=sat
 ·have h1b:(qs==sat)=true:=by simpa using h1
  by_cases h2:qn=Qw
  ·have h2b:(qn==Qw)=true:=by simpa using h2
   by_cases h3:qa≤fr
   ·have hval:fH sat Qw fr tt ⟨qs,qn,⟨qa,qb⟩,⟨qc,qd⟩⟩=decide (tt≤qb):=by simp[fH,h1,h2,h3]
    clear h1 h2;rw[hval];clear hval;go_enter Tryz.func101,Tryz.ntmps101;go_upto_region 1 with (fail);generalize w.alloc _=W at J c0 c1 c2 c3 HX⊢;generalize w.heap.size=g at J⊢;have u0:W.cell? ⟨g,0,none⟩=some (.int .i64 qs):=J.cell 0;have u1:W.cell? ⟨g,1,none⟩=some (.int .i64 qn):=J.cell 1;have u2:W.cell? ⟨g,2,none⟩=some (.int .i64 qa):=J.cell 2;have u3:W.cell? ⟨g,3,none⟩=some (.int .i64 qb):=J.cell 3;go_wp2;go_ret;exact⟨by first | rfl | simp[*],HX.out⟩
   ·have hval:fH sat Qw fr tt ⟨qs,qn,⟨qa,qb⟩,⟨qc,qd⟩⟩=false:=by simp[fH,h3]
    clear h1 h2;rw[hval];clear hval;go_enter Tryz.func101,Tryz.ntmps101;go_upto_region 1 with (fail);generalize w.alloc _=W at J c0 c1 c2 c3 HX⊢;generalize w.heap.size=g at J⊢;have u0:W.cell? ⟨g,0,none⟩=some (.int .i64 qs):=J.cell 0;have u1:W.cell? ⟨g,1,none⟩=some (.int .i64 qn):=J.cell 1;have u2:W.cell? ⟨g,2,none⟩=some (.int .i64 qa):=J.cell 2;have u3:W.cell? ⟨g,3,none⟩=some (.int .i64 qb):=J.cell 3;go_wp2;go_ret;exact⟨by first | rfl | simp[*],HX.out⟩
  ·have h2b:(qn==Qw)=false:=by simpa using h2
   have hval:fH sat Qw fr tt ⟨qs,qn,⟨qa,qb⟩,⟨qc,qd⟩⟩=false:=by simp[fH,h2]
   clear h1 h2;rw[hval];clear hval;go_enter Tryz.func101,Tryz.ntmps101;go_upto_region 1 with (fail);generalize w.alloc _=W at J c0 c1 c2 c3 HX⊢;generalize w.heap.size=g at J⊢;have u0:W.cell? ⟨g,0,none⟩=some (.int .i64 qs):=J.cell 0;have u1:W.cell? ⟨g,1,none⟩=some (.int .i64 qn):=J.cell 1;have u2:W.cell? ⟨g,2,none⟩=some (.int .i64 qa):=J.cell 2;have u3:W.cell? ⟨g,3,none⟩=some (.int .i64 qb):=J.cell 3;go_wp2;go_ret;exact⟨by first | rfl | simp[*],HX.out⟩
 ·have h1b:(qs==sat)=false:=by simpa using h1
  have hval:fH sat Qw fr tt ⟨qs,qn,⟨qa,qb⟩,⟨qc,qd⟩⟩=false:=by simp[fH,h1]
  clear h1;rw[hval];clear hval;go_enter Tryz.func101,Tryz.ntmps101;go_upto_region 1 with (fail);generalize w.alloc _=W at J c0 c1 c2 c3 HX⊢;generalize w.heap.size=g at J⊢;have u0:W.cell? ⟨g,0,none⟩=some (.int .i64 qs):=J.cell 0;have u1:W.cell? ⟨g,1,none⟩=some (.int .i64 qn):=J.cell 1;have u2:W.cell? ⟨g,2,none⟩=some (.int .i64 qa):=J.cell 2;have u3:W.cell? ⟨g,3,none⟩=some (.int .i64 qb):=J.cell 3;go_wp2;go_ret;exact⟨by first | rfl | simp[*],HX.out⟩
theorem O9 (x:St) (go:Nat) (sat:Int) (w:World) (O:Array Value) (ko:aG w go 49 O) (o3:O[3]?=some (.int .i64 sat)) :
  Calls Tryz.prog 99 #[.agg (aC x).toArray,.pointer (some ⟨go,0,none⟩)] w fun e w'=>e=.returned (.bool (x.id==sat))∧Ext w w':=by
 obtain⟨P,hP⟩:∃P,(aC x).toArray=P:=⟨_,rfl⟩;obtain⟨Cj,hP1,p0⟩:=zk x P hP;rw[hP];have hx:Ext w (w.alloc (.cells P 53)):=aj (Below.refl _ _) _;have c0:(w.alloc (.cells P 53)).cell? ⟨go,3,none⟩=some (.int .i64 sat):=by rw[(ko.ext hx).cell];exact o3
 have c1:(w.alloc (.cells P 53)).cell? ⟨w.heap.size,0,none⟩=some (.int .i64 x.id):=by rw[(aG.new w 53 P).cell];exact p0
 have HX:=Lib.hid hx;clear hP Cj hP1 hx ko o3 p0;go_enter Tryz.func99,Tryz.ntmps99;go_wp2;go_ret;exact⟨rfl,HX.out⟩
end Go.Proofs.YtjidhhfabfnhnaaGreat
namespace Go.Proofs.YtjidhhfabfnhnaaGreat
open Go.RowKit Go.Shelf
attribute [local go_sem] Oper.semAt_some
set_option maxRecDepth 100000 in
set_option maxHeartbeats 2000000 in
theorem TF (s:xu) (gO gN:Nat) (old now:List bP) (A1 A2:Option Addr) (n1 n2 c1 c2:Nat) (w:World) (kO:aG w gO 36 #[.slice A1 n1 c1]) (kN:aG w gN 36 #[.slice A2 n2 c2]) (h1:RA ak 6 w w.heap.size A1 n1 c1 old) (h2:RA ak 6 w w.heap.size A2 n2 c2 now) :
  Calls Tryz.prog 100 #[.agg (dR s).toArray,.pointer (some ⟨gO,0,none⟩),.pointer (some ⟨gN,0,none⟩)] w fun e w'=>e=.returned (.bool (ni old now s))∧Ext w w':=by
 obtain⟨sp,sf,st⟩:=s
 show Calls Tryz.prog 100 #[.agg #[.int .i64 sp,.int .i64 sf,.int .i64 st],_,_] w _
 have hx:Ext w (w.alloc (.cells #[.int .i64 sp,.int .i64 sf,.int .i64 st] 103)):=aj (Below.refl _ _) _;have J:=aG.new w 103 #[.int .i64 sp,.int .i64 sf,.int .i64 st];have kO:=kO.ext hx;have kN:=kN.ext hx;have hle:=h1.le;have hcap:=h1.vw;have hcn:=h1.cap;have hn1:n1≤9223372036854775807:=hle;have HL:=Lib.hid h1.len;have HO:=Lib.hid h1;have HN:=Lib.hid h2;have hw1:IntKind.i64.wrap ((n1:Int)-1)=(n1:Int)-1:=IntWalk.i64_in _ (by omega);obtain⟨q,hq⟩:∃q,q=inB sp 0 ((n1:Int)-1):=⟨_,rfl⟩;have HI:Hid (∀W,Calls Tryz.prog 51 #[.int .i64 sp,.int .i64 0,.int .i64 ((n1:Int)-1)] W fun e w'=>e=.returned (.bool q)∧W=w'):=Lib.hid (fun W=>by rw[hq];exact zh sp 0 ((n1:Int)-1) W);have HQ:=Lib.hid hq;obtain⟨R,hR⟩:∃R,R=ni old now ⟨sp,sf,st⟩:=⟨_,rfl⟩;rw[←hR];have HR:=Lib.hid hR;clear h1 h2 hq hR hle hcap hcn;go_enter Tryz.func100,Tryz.ntmps100;go_upto_region 1 with (fail);obtain⟨g3,hg3⟩:∃k,k=w.heap.size:=⟨_,rfl⟩;rw[←hg3]at J⊢;clear hg3;generalize w.alloc (.cells #[.int .i64 sp,.int .i64 sf,.int .i64 st] 103)=W1 at J kO kN hx⊢;have u0:W1.cell? ⟨g3,0,none⟩=some (.int .i64 sp):=J.cell 0;have u1:W1.cell? ⟨g3,1,none⟩=some (.int .i64 sf):=J.cell 1;have u2:W1.cell? ⟨g3,2,none⟩=some (.int .i64 st):=J.cell 2;have d0:W1.cell? ⟨gO,0,none⟩=some (.slice A1 n1 c1):=kO.cell 0;have d1:W1.cell? ⟨gN,0,none⟩=some (.slice A2 n2 c2):=kN.cell 0;have HX:=Lib.hid hx;go_wp2_with fail;refine (HI.out _).mono ?_;rintro e W2 ⟨rfl,rfl⟩;cases q
 ·have hr:R=true:=by
   have h:=HQ.out;rw[HR.out,ni];have hlen:=HL.out;by_cases h0:sp<0
   ·cases old[sp.toNat]? with
    |none=>rfl
    |some p=>simp[h0]
   ·have hin:¬(0≤sp∧sp≤(n1:Int)-1):=by simpa [inB]using h
    rw[List.getElem?_eq_none (by dsimp only;omega)]
  have CY:=Lib.hid hr;clear hr HI HQ hx kO kN J HR;go_wp2;go_ret;rw[CY.out];exact⟨rfl,HX.out⟩
 ·have hin:0≤sp∧sp≤(n1:Int)-1:=by have h:=HQ.out;simpa [inB]using h.symm
  obtain⟨k,rfl⟩:∃k:Nat,sp=k:=⟨sp.toNat,by omega⟩;have hk:k<n1:=by omega
  obtain⟨bb,oo,hz,hA,hbl,hc⟩:=RA.range bg (HO.out.below HX.out) hk;have hpk:old[((k:Int)).toNat]?=some old[k]:=by rw[Int.toNat_natCast];exact List.getElem?_eq_getElem hz
  have hRk:R=if (sf≥st) then true else !(now.any (fH old[k].sat old[k].dh sf st)):=by
   rw[HR.out,ni];simp only[hpk];have h0:¬((k:Int)<0):=by omega
   by_cases h:sf≥st
   ·rw[if_pos (Or.inr h),if_pos h]
   ·rw[if_neg (by rintro (h1 | h1);exact h0 h1;exact h h1),if_neg h]
  generalize old[k]=p at hc hRk;obtain⟨P,hP⟩:∃P,(ak p).toArray=P:=⟨_,rfl⟩;obtain⟨Cj,hPl,hP1⟩:=FQ p P hP;have p0:P[0]?=some (.int .i64 p.sat):=by rw[←hP];rfl
  have p1:P[1]?=some (.int .i64 p.dh):=by rw[←hP];rfl
  subst hA;have HRK:=Lib.hid hRk;have qN:=Lib.hid hc;have oH:=Lib.hid hP;have ug:=Lib.hid Cj;have wV:=Lib.hid hP1;clear hRk hc hP Cj hPl hP1 hpk hz HQ HR hin HI;by_cases hfs:sf≥st
  ·have CY:Hid (R=true):=Lib.hid (by rw[HRK.out,if_pos hfs]);have hfs2:st≤sf:=hfs;clear hx kO kN J HRK qN p0 p1;go_wp2;go_ret;rw[CY.out];exact⟨rfl,HX.out⟩
  ·have CY:Hid (R=!(now.any (fH p.sat p.dh sf st))):=Lib.hid (by rw[HRK.out,if_neg hfs]);have hfs2:¬st≤sf:=hfs;have hkz:(k:Int)<(n1:Int):=by omega
   have K5:=aG.new W1 75 P;have hx5:Ext W1 (W1.alloc (.cells P 75)):=aj (Below.refl _ _) _;have d1b:(W1.alloc (.cells P 75)).cell? ⟨gN,0,none⟩=some (.slice A2 n2 c2):=ah hx5 d1;have J5:=J.ext hx5;have hcon:=EZ (fH p.sat p.dh sf st) 101 #[.pointer (some ⟨W1.heap.size,0,none⟩),.pointer (some ⟨g3,0,none⟩)] (enters_of Tryz.func101 (by kernel_rfl) rfl) now A2 n2 c2 (W1.alloc (.cells P 75)) (aB HN.out (Ext.trans HX.out hx5)) (fun q W hW=>O8 q W1.heap.size g3 p.sat p.dh sf st W P #[.int .i64 k,.int .i64 sf,.int .i64 st] (K5.ext hW) p0 p1 (J5.ext hW) rfl rfl);generalize now.any (fH p.sat p.dh sf st)=zz at hcon CY;have Xl:=Lib.hid hcon;have yZ:=Lib.hid (Ext.trans HX.out hx5);clear hx kO kN J HRK p0 p1 hcon hx5 K5 J5 hfs;go_wp2_with (first | (refine ay rfl _ _ rfl bb (oo+k*6) rfl P (ak p) oH.out _ qN.out Tryz.underlying75 rfl l9 ?_) | (refine aS rfl 75 _ _ rfl _ P rfl rfl (by rw[ug.out];exact l9) (by rw[ug.out];rfl) wV.out ?_));refine Xl.out.mono ?_;rintro e W6 ⟨rfl,hy⟩;have HY:=Lib.hid (Ext.trans yZ.out hy);clear hy Xl yZ;go_wp2;go_ret;rw[CY.out];exact⟨rfl,HY.out⟩
end Go.Proofs.YtjidhhfabfnhnaaGreat
