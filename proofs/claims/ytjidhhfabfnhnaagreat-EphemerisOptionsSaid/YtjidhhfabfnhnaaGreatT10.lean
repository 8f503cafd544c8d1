/- A range over an iterator whose own callee reads what the rounds write: the iterator may lean on what the caller's invariant says. -/
import Derived.Test.YtjidhhfabfnhnaaGreatT09
import Derived.ArgAppend
import Derived.Lib.Hide
import Derived.Shelf.Abstract
import Derived.Test.YtjidhhfabfnhnaaGreatT02
import Derived.RangeFuncNested
import Derived.RangeFuncBound
import Derived.RangeFuncCalls
import Derived.RangeFuncLeaves
import Derived.Shelf.RegionOpen
import Derived.WalkKit
import Derived.OwnWalkIn
import Derived.TacticsInMore
import Derived.LoopNIn
import Derived.LoopIn
namespace Go.Proofs.YtjidhhfabfnhnaaGreat
open Go.RowKit
theorem zZ {P:Program} (w:World) (t e ty:TypeId) (z:Value) (ht:P.underlying t=some (.slice e)) (hv:∀w,(zeroValue e).run P w=.ok z w) (m:Nat) (hm:0<m) (h1:∀u∈(Builtin.zeroCells z.cells m).toList,u.oneCell'=true) (g o c:Nat) (cur:Array Value) (et:TypeId)
  (hg:w.heap[g]?=some (.cells cur et (0,0))) (hfit:o+(Builtin.zeroCells z.cells m).toList.length≤cur.size) :
  (Builtin.clear_ #[t] ty #[.slice (some ⟨g,o,none⟩) m c]).run P w=.ok (.tuple #[]) (w.setRow g (cur.toList.take o++(Builtin.zeroCells z.cells m).toList++cur.toList.drop (o+(Builtin.zeroCells z.cells m).toList.length)).toArray):=by
 have hst:=run_storeCells_at P g o et (Builtin.zeroCells z.cells m).toList 0 cur w hg (by simpa using hfit) h1;simp only[Nat.add_zero]at hst;obtain⟨m,rfl⟩:∃k,m=k+1:=⟨m-1,by omega⟩;simp[Builtin.clear_,run_underlying ht,hv,hst]
theorem uF {P:Program} (w:World) {ops:Array Oper} {rest:List Oper} {o:Oper} {a:Act} {Q:Exit→Act→World→Prop} (hgd:o.guard=none) (d:Operand) (t:TypeId)
  (ho:o.op=.call { callee:=.builtin .clear,args:=#[d],argTypes:=#[t] }) (v:Value) (hd:a.eval d=v) {v':Value} {w':World}
  (hr:(Builtin.clear_ #[t] o.type #[v]).run P w=.ok v' w') (h:wpList P ops Q rest (a.put o.dst v') w'):wpList P ops Q (o::rest) a w:=by
 refine wpList_plain hgd fun K hK=>?_;unfold Oper.wp execOp;simp only[ho,resolve,invoke,builtin,Sem.run_bind,Sem.run_pure,Result.andThen_ok,List.map_toArray,List.map_cons,List.map_nil,hd,hr];exact hK _ _ h
theorem Hl (z:Array Value) (m:Nat):(Builtin.zeroCells z m).toList.length=m*z.size:=by simp[Builtin.zeroCells]
theorem DK (z:Array Value) (hz:0<z.size) (m:Nat) (h:∀u∈z.toList,u.oneCell'=true):∀u∈(Builtin.zeroCells z m).toList,u.oneCell'=true:=by
 intro u hu;simp only[Builtin.zeroCells,Array.toList_map,List.mem_map]at hu;obtain⟨i,_,rfl⟩:=hu;have hlt:i % z.size<z.size:=Nat.mod_lt _ hz;rw[getElem!_pos z _ hlt];exact h _ (by simp)
theorem J_ {α:Type} {cells:α→List Value} {s:Nat} (hs:∀x,(cells x).length=s) (l:List α) (k:Nat):(l.take k).flatMap cells=(l.flatMap cells).take (k*s):=by
 induction l generalizing k with
 |nil=>simp
 |cons x r ih =>
  cases k with
  |zero=>simp
  |succ k =>
   rw[List.take_succ_cons,List.flatMap_cons,List.flatMap_cons,ih,List.take_append,hs,Nat.succ_mul,List.take_of_length_le (l:=cells x) (i:=k*s+s) (by rw[hs];omega),Nat.add_sub_cancel]
theorem ND {α:Type} {cells:α→List Value} {s base:Nat} {e:TypeId} {g n c:Nat} {w:World} {l:List α} (hs:∀x,(cells x).length=s) (h:aW cells s base e g n c w l) {k:Nat} (hk:k≤n) (Z:List Value) (hZ:Z.length=(n-k)*s) :
  ∃cur:Array Value,aG w g e cur∧k*s+Z.length≤cur.size∧aW cells s base e g k c (w.setRow g (cur.toList.take (k*s)++Z++cur.toList.drop (k*s+Z.length)).toArray) (l.take k):=by
 obtain⟨hl,ho⟩:=h;rcases ho.2 with ⟨hv,_⟩ | ⟨g',cap,cur,hv,hbg,hgg,h1,h2,h3,h4⟩
 ·cases hv
 ·injection hv with e1 e2 e3;injection e1 with e1;injection e1 with e1;subst e1 e3;have hfl:=wZ hs l;have hkn:k*s+(n-k)*s=n*s:=by rw[←Nat.add_mul];congr 1;omega
  have hnc:n*s≤c*s:=Nat.mul_le_mul_right s h1;refine⟨cur,hgg,by omega,by rw[List.length_take,hl];omega,?_,.inr ⟨g,c,_,rfl,hbg,setRow_heap _ _ _ _ _ _ hgg,by omega,h2,?_,?_⟩⟩
  ·rw[wZ hs,List.length_take,hl,Nat.min_eq_left hk]
  ·rw[List.size_toArray,List.length_append,List.length_append,List.length_take,List.length_drop,Array.length_toList];omega
  ·rw[J_ hs,←h4,List.take_take,Nat.min_eq_left (by omega)];rw[List.append_assoc,List.take_append_of_le_length (by rw[List.length_take,Array.length_toList];omega),List.take_take,Nat.min_self]
theorem Ho {α:Type} (p:α→Bool) (l:List α) (h:gK p l 0<0):l.filter (fun x=>!p x)=l:=by
 rw[List.filter_eq_self];intro x hx;have h1:=oV p l 0 (Int.le_refl _);have h2:¬l.any p=true:=by rw[←h1];omega
 cases hp:p x with
 |false=>rfl
 |true=>exact absurd (List.any_eq_true.2 ⟨x,hx,hp⟩) h2
theorem Hq {α:Type} (p:α→Bool):∀(l:List α) (k:Int),0≤k→0≤gK p l k→∃(i:Nat) (hi:i<l.length),gK p l k=k+i∧p l[i]=true∧(l.take i).filter (fun x=>!p x)=l.take i:=by
 intro l
 induction l with
 |nil=>intro k hk h;simp[gK]at h
 |cons x r ih =>
  intro k hk h;rw[gK]at h⊢;by_cases hx:p x=true
  ·rw[if_pos hx]at h⊢;exact⟨0,by simp,by simp,hx,by simp⟩
  ·rw[if_neg hx]at h⊢;obtain⟨i,hi,h1,h2,h3⟩:=ih (k+1) (by omega) h;exact⟨i+1,by simpa using hi,by rw[h1];omega,by simpa using h2,by simp[List.take_succ_cons,hx,h3]⟩
theorem NG {α:Type} (p:α→Bool):∀(l:List α) (k:Int),0≤k→gK p l k = -1∨0≤gK p l k:=by
 intro l
 induction l with
 |nil=>intro k _;exact .inl rfl
 |cons x r ih =>
  intro k hk;rw[gK]
  split
  ·exact .inr hk
  ·exact ih (k+1) (by omega)
structure DI {α:Type} (p:α→Bool) (l l':List α) (i j:Nat):Prop where
 len:l'.length=l.length
 ij:i<j
 jn:j≤l.length
 tk:l'.take i=(l.take j).filter (fun x=>!p x)
 dr:l'.drop j=l.drop j
theorem DI.start {α:Type} {p:α→Bool} {l:List α} {i:Nat} (hi:i<l.length) (h:p l[i]=true) (hf:(l.take i).filter (fun x=>!p x)=l.take i):DI p l l i (i+1) :=
 ⟨rfl,by omega,by omega,by rw[List.take_succ_eq_append_getElem hi,List.filter_append,hf];simp[h],rfl⟩
theorem DI.at {α:Type} {p:α→Bool} {l l':List α} {i j:Nat} (d:DI p l l' i j) (hj:j<l.length):∃h:j<l'.length,l'[j]=l[j]:=by
 have h:j<l'.length:=by rw[d.len];exact hj
 have e:=congrArg (fun z:List α=>z[0]?) d.dr;simp only[List.getElem?_drop,Nat.add_zero]at e;rw[List.getElem?_eq_getElem h,List.getElem?_eq_getElem hj]at e;exact⟨h,Option.some.inj e⟩
theorem DI.skip {α:Type} {p:α→Bool} {l l':List α} {i j:Nat} (d:DI p l l' i j) (hj:j<l.length) (h:p l[j]=true):DI p l l' i (j+1) :=
 ⟨d.len,by have:=d.ij;omega,hj,by rw[d.tk,List.take_succ_eq_append_getElem hj,List.filter_append];simp[h],by rw[←List.drop_drop,d.dr,List.drop_drop]⟩
theorem DI.keep {α:Type} {p:α→Bool} {l l':List α} {i j:Nat} (d:DI p l l' i j) (hj:j<l.length) (h:p l[j]=false):DI p l (l'.set i l[j]) (i+1) (j+1):=by
 have hij:=d.ij;have hil:i<l'.length:=by rw[d.len];omega
 refine⟨by rw[List.length_set,d.len],by omega,hj,?_,?_⟩
 ·rw[List.take_succ_eq_append_getElem (by rw[List.length_set];exact hil),List.getElem_set_self,List.take_set_of_le (Nat.le_refl _),d.tk,List.take_succ_eq_append_getElem hj,List.filter_append];simp[h]
 ·rw[List.drop_set_of_lt (by omega),←List.drop_drop,d.dr,List.drop_drop]
theorem DI.fin {α:Type} {p:α→Bool} {l l':List α} {i:Nat} (d:DI p l l' i l.length):l'.take i=l.filter (fun x=>!p x)∧i<l.length∧i=(l.filter (fun x=>!p x)).length:=by
 have h:=d.tk;rw[List.take_of_length_le (Nat.le_refl _)]at h;refine⟨h,d.ij,?_⟩;rw[←h,List.length_take,d.len];have:=d.ij;omega
theorem aW.ra {α:Type} {cells:α→List Value} {s base:Nat} {e:TypeId} {g n c:Nat} {w:World} {l:List α} (h:aW cells s base e g n c w l) (hn:n≤1000000):RA cells s w w.heap.size (some ⟨g,0,none⟩) n c l:=by
 obtain⟨h1,h2⟩:=h.le;refine⟨⟨?_,fun _=>⟨g,0,rfl,h.lt,fun j v hv=>?_⟩⟩,h.1,h1,h2,by omega⟩
 ·exact h.2.1
 ·rw[Nat.zero_add];have:=h.2.cells (g:=g) rfl j v hv;rwa[Addr.add_lit,Nat.zero_add]at this
theorem Hr:(Tryz.prog.info? 66).map (fun i=>(i.zero,i.size,i.bytes))=some (some (Value.agg #[.int .i64 0,.int .i64 0,.int .i64 0,.int .i64 0,.int .i64 0,.int .i64 0,.int .i64 0,.int .i64 0,.int .i64 0,.int .i64 0]),10,80):=by kernel_rfl
theorem Ht (l:List fE):∀u∈l.flatMap aI,u.oneCell'=true:=by
 intro u hu;obtain⟨x,_,hx⟩:=List.mem_flatMap.1 hu;simp[aI]at hx;rcases hx with hx | hx | hx | hx | hx | hx | hx | hx | hx | hx<;>subst hx<;>rfl
set_option maxHeartbeats 1000000 in
theorem OC (l:List fE) (A:Option Addr) (n c:Nat) (w:World) (h:RA aI 10 w w.heap.size A n c l) (hn:n≤2000) :
  Calls Tryz.prog 110 #[.slice A n c] w fun e w'=>(∃v,e=.returned v∧w'.ownsRow w.heap.size 66 10 v l.length (l.flatMap aI))∧Ext w w':=by
 have hr:=h.rd;have hlen:=h.len;have heq:=fun (w:World) (a:Option Addr) (n c n' c':Nat)=>Lib.run_eql_slice_nil (P:=Tryz.prog) w 30 66 a n c n' c' Tryz.underlying30;cases A with
 |none =>
  have h0:n=0:=by
   rcases Nat.eq_zero_or_pos n with h0 | h0
   ·exact h0
   ·obtain⟨_,_,h,_⟩:=hr.2 h0;cases h
  subst h0;have hz:l=[]:=List.eq_nil_of_length_eq_zero hlen;subst hz;clear hr h hlen;go_enter Tryz.func110,Tryz.ntmps110;go_wp2;go_ret;exact⟨⟨_,rfl,World.ownsRow_nil _ _ _ _⟩,(by repeat (first | exact Below.refl _ _ | assumption | refine Below.drew ?_ | refine below_drewN ?_ _ | refine aj ?_ _ | refine Below.setCell ?_ (by first | (simp;done) | omega | (simp;omega)) _ | refine aA ?_ (by assumption)))⟩
 |some ad =>
  obtain⟨i0,hi,hz0,hz1,hz2⟩:=info_parts Hr;have H1:=Lib.hid (Ht l);have HLEN:=Lib.hid hlen;generalize hxs:l.flatMap aI=xs at hr H1;have qg:=Lib.hid hxs;have HR:=Lib.hid (hr.alloc (Nat.le_refl _) (.cells #[] 66));clear hr h hlen hxs;go_enter Tryz.func110,Tryz.ntmps110;go_wp2_with (at_builtin;refine nN _ rfl _ _ 30 rfl w.heap.size 66 i0 (Value.agg #[.int .i64 0,.int .i64 0,.int .i64 0,.int .i64 0,.int .i64 0,.int .i64 0,.int .i64 0,.int .i64 0,.int .i64 0,.int .i64 0]) 10 80 Tryz.underlying30 hi hz0 hz1 hz2 rfl (by decide) _ 0 [] rfl (World.ownsRow_made w #[] 0 (Nat.le_refl _) (by unfold maxLen;omega) rfl) w.heap.size (some ad) n c xs rfl HR.out H1.out (by unfold maxLen;omega) (by omega) (by simp) ?_);intro v' w' hown hg hat;go_wp2;go_ret;refine⟨⟨_,rfl,by rw[HLEN.out];simpa using hown⟩,?_⟩;exact (aj (Below.refl _ _) _).grown hg (by simp) (fun k hk=>by simp[Value.ownBlock]at hk;omega)
set_option maxRecDepth 100000 in
set_option maxHeartbeats 2000000 in
theorem Kq (p:fE→Bool) (K:Nat) (caps:Array Value) (eg:∀args w,(callFunc K args).run Tryz.prog w=.ok (.enter K args) w) (base g n c:Nat) (l:List fE) (w:World) (h:aW aI 10 base 66 g n c w l) (hn:n≤2000)
  (hp:∀(x:fE) (W:World),w.grownBy W (some g)→Calls Tryz.prog K (#[.agg (aI x).toArray]++caps) W fun e w'=>e=.returned (.bool (p x))∧Ext W w') :
  Calls Tryz.prog 109 #[.slice (some ⟨g,0,none⟩) n c,.func (.func K) #[] caps] w fun e w'=>e=.returned (.slice (some ⟨g,0,none⟩) (l.filter (fun x=>!p x)).length c)∧aW aI 10 base 66 g (l.filter (fun x=>!p x)).length c w' (l.filter (fun x=>!p x))∧w.grownBy w' (some g):=by
 have HI:=Lib.hid (Ox p K caps eg l (some ⟨g,0,none⟩) n c w (h.ra (by omega)) (fun x W hx=>hp x W (dM hx)));have hln:=h.1;have hcap:=h.le;have HR:=Lib.hid h;have HP:=Lib.hid hp;clear hp h;rcases NG p l 0 (Int.le_refl _)with hneg | hpos
 ·have hf:=Ho p l (by omega);rw[hf,hln];rw[hneg]at HI;clear hf hneg;go_enter Tryz.func109,Tryz.ntmps109;go_wp2_with fail;refine HI.out.mono ?_;rintro e w1 ⟨rfl,hx⟩;have HX:=Lib.hid hx;clear hx;go_wp2;go_ret;exact⟨rfl,HR.out.ext HX.out,dM HX.out⟩
 ·obtain⟨i0,hi0,hi1,hi2,hi3⟩:=Hq p l 0 (Int.le_refl _) hpos;rw[Int.zero_add]at hi1;rw[hi1]at HI;have HD:=Lib.hid (DI.start hi0 hi2 hi3);have hin:i0<n:=by omega
  clear hi1 hi2 hi3 hpos hi0;obtain⟨M,hM⟩:∃M,M=l.filter (fun x=>!p x):=⟨_,rfl⟩;rw[←hM];have HM:=Lib.hid hM;have uz:=Lib.hid hln;clear hM hln;have hcap1:=hcap.1;have hcap2:c≤9223372036854775807:=hcap.2;have hiz:((i0:Int) == -1)=false:=by first | (simp;done) | (simp;omega)
  go_enter Tryz.func109,Tryz.ntmps109;go_wp2_with fail;refine HI.out.mono ?_;rintro e w1 ⟨rfl,hx⟩;have hR1:aW aI 10 base 66 g n c w1 l:=HR.out.ext hx;have HR1:=Lib.hid hR1;have qZ:Hid (w.grownBy w1 (some g)):=Lib.hid (dM hx);clear hx hR1 HI;go_wp2;go_loopw [5,6] (fun x y wr=>∃(i j:Nat) (l':List fE),x=.int .i64 i∧y=.int .i64 j∧j≤n∧Hid (DI p l l' i j)∧Hid (aW aI 10 base 66 g n c wr l')∧Hid (w.grownBy wr (some g))) (fun _ y _=>n-(intOf y).toNat)
  case atStart=>exact⟨i0,i0+1,l,rfl,by first | rfl | simp,by omega,HD,HR1,qZ⟩
  case round =>
   clear HD HR1 qZ;obtain⟨i,j,l',rfl,rfl,hjn,HD,HR1,qZ⟩:=hrel;have hij:=HD.out.ij;by_cases hjl:j<n
   ·have hjz:(j:Int)<(n:Int):=by omega
    have Kr:j<l.length:=by rw[uz.out];exact hjl
    obtain⟨hz,hat⟩:=HD.out.at Kr;have hc:=HR1.out.range iR hz;have hsk:=fun h=>HD.out.skip Kr h;have hkp:=fun h=>HD.out.keep Kr h;rw[hat]at hc;generalize l[j]=x at hc hsk hkp;have hv:=fun W hW=>HP.out x W hW;have hst:=HR1.out.store (cells:=aI) iR (k:=i) (by rw[HD.out.len];omega) x;have hth:=HR1.out.there iR (k:=i) (by rw[HD.out.len];omega);have hx1:∀v∈aI x,v.oneCell'=true:=fun v hv=>Ht [x] v (by simpa using hv);obtain⟨X,hX⟩:∃X,(aI x).toArray=X:=⟨_,rfl⟩;rw[hX]at hv;have tH:X.size=10:=by rw[←hX];rfl
    have hX1:X.all (·.oneCell')=true:=by rw[←hX];exact all_oneCell_toArray hx1
    obtain⟨q,hq⟩:∃q,q=p x:=⟨_,rfl⟩;rw[←hq]at hv;have iP:=Lib.hid hX;have qg:=Lib.hid tH;have kC:=Lib.hid hX1;have Z7:=Lib.hid hx1;have qN:=Lib.hid hc;have HV:=Lib.hid hv;have Z8:=Lib.hid hsk;have NH:=Lib.hid hkp;have HQ:=Lib.hid hq;have KX:aG (wr.alloc (.cells X 66)) wr.heap.size 66 X:=aG.new _ _ _;have hxa:Ext wr (wr.alloc (.cells X 66)):=aj (Below.refl _ _) _;clear hc hv hsk hkp hX tH hX1 hx1 hq hat hz hst hth;go_upto_region 8 with (first | (refine ay rfl _ _ rfl g (j*10) rfl X (aI x) iP.out _ qN.out Tryz.underlying66 rfl dF ?_) | (refine aS rfl 66 _ _ rfl _ X rfl rfl (by rw[qg.out];exact dF) (by rw[qg.out];rfl) kC.out ?_));generalize wr.heap.size=g7 at KX⊢;generalize wr.alloc (.cells X 66)=W2 at KX hxa⊢;have HR2:=Lib.hid (HR1.out.ext hxa);have HG2:=Lib.hid (bD qZ.out (dM hxa));have WB:=Lib.hid (HV.out W2 HG2.out);have HK:=Lib.hid KX;clear KX hxa HR1 qZ HV;go_wp2_with (refine ay rfl _ _ rfl g7 0 rfl X (aI x) iP.out _ (aG.range HK.out (aI x) (by rw[←iP.out])) Tryz.underlying66 rfl dF ?_);refine WB.out.mono ?_;rintro e W3 ⟨rfl,hy⟩;have HR3:=Lib.hid (HR2.out.ext hy);have z_:=Lib.hid (bD HG2.out (dM hy));have HK3:=Lib.hid (HK.out.ext hy);clear hy WB HR2 HG2 HK;cases q
    ·have HD4:=Lib.hid (NH.out HQ.out.symm);have hil:i<l'.length:=by rw[HD.out.len];omega
     obtain⟨hst1,hst2⟩:=HR3.out.store (cells:=aI) iR (k:=i) hil x;have hth:=HR3.out.there iR (k:=i) hil;have Hu:=Lib.hid hst1;have o_:=Lib.hid (bD z_.out hst2);have Vp:=Lib.hid hth;have Z9:(i:Int)<(n:Int):=by omega
     have hiz3:¬(i:Int)<0:=by omega
     have hw1:IntKind.i64.wrap ((i:Int)+1)=(i:Int)+1:=IntWalk.i64_in _ (by omega);clear hst1 hst2 hth Z8 NH;go_upto_region 10 with (first | (refine ay rfl _ _ rfl g7 0 rfl X (aI x) iP.out _ (aG.range HK3.out (aI x) (by rw[←iP.out])) Tryz.underlying66 rfl dF ?_) | (refine dL rfl 66 _ _ rfl g (i*10) X (aI x) iP.out rfl rfl Vp.out dF Z7.out ?_));generalize W3.setCells g (i*10) (aI x)=W4 at Hu o_⊢;go_wp2;go_roundw
     case rel=>exact⟨i+1,j+1,_,by go_num,by go_num,by omega,HD4,Hu,o_⟩
     case measure=>simp[intOf];omega
    ·have HD4:=Lib.hid (Z8.out HQ.out.symm);clear Z8 NH;go_wp2;go_roundw
     case rel=>exact⟨i,j+1,l',rfl,by go_num,by omega,HD4,HR3,z_⟩
     case measure=>simp[intOf];omega
   ·have RN:j=l.length:=by have:=uz.out;omega
    have hjz:¬(j:Int)<(n:Int):=by omega
    obtain⟨f1,f2,f3⟩:=(RN ▸ HD.out:DI p l l' i l.length).fin;rw[←HM.out]at f1 f3;have hin2:i<n:=by have:=uz.out;omega
    obtain⟨i9,hi9,hz0,hz1,hz2⟩:=info_parts Hr;have hzl:=Hl (Value.agg #[.int .i64 0,.int .i64 0,.int .i64 0,.int .i64 0,.int .i64 0,.int .i64 0,.int .i64 0,.int .i64 0,.int .i64 0,.int .i64 0]).cells (n-i);have hzs:(Value.agg #[.int .i64 0,.int .i64 0,.int .i64 0,.int .i64 0,.int .i64 0,.int .i64 0,.int .i64 0,.int .i64 0,.int .i64 0,.int .i64 0]).cells.size=10:=rfl;rw[hzs]at hzl;obtain⟨cur,K,hfit,hrow⟩:=ND (cells:=aI) iR HR1.out (k:=i) (by omega) _ hzl;have hzv:∀w,(zeroValue 66).run Tryz.prog w=.ok (Value.agg #[.int .i64 0,.int .i64 0,.int .i64 0,.int .i64 0,.int .i64 0,.int .i64 0,.int .i64 0,.int .i64 0,.int .i64 0,.int .i64 0]) w:=fun _=>by kernel_rfl
    have hcl:=zZ (P:=Tryz.prog) wr 30 66 0 (Value.agg #[.int .i64 0,.int .i64 0,.int .i64 0,.int .i64 0,.int .i64 0,.int .i64 0,.int .i64 0,.int .i64 0,.int .i64 0,.int .i64 0]) Tryz.underlying30 hzv (n-i) (by omega) (DK _ (by decide) _ (by decide)) g (i*10) (c-i) cur 66 K hfit;rw[f1]at hrow;have HC:=Lib.hid hcl;have rQ:=Lib.hid hrow;have HGX:Hid (w.grownBy (wr.setRow g (cur.toList.take (i*10)++(Builtin.zeroCells (Value.agg #[.int .i64 0,.int .i64 0,.int .i64 0,.int .i64 0,.int .i64 0,.int .i64 0,.int .i64 0,.int .i64 0,.int .i64 0,.int .i64 0]).cells (n-i)).toList++cur.toList.drop (i*10+(Builtin.zeroCells (Value.agg #[.int .i64 0,.int .i64 0,.int .i64 0,.int .i64 0,.int .i64 0,.int .i64 0,.int .i64 0,.int .i64 0,.int .i64 0,.int .i64 0]).cells (n-i)).toList.length)).toArray) (some g)):=Lib.hid (bD qZ.out ⟨rfl,rfl,rfl,by rw[setRow_size];exact Nat.le_refl _,fun k _ hne=>setRow_other _ _ _ _ (fun e=>hne (by rw[e]))⟩);generalize (wr.setRow g (cur.toList.take (i*10)++(Builtin.zeroCells (Value.agg #[.int .i64 0,.int .i64 0,.int .i64 0,.int .i64 0,.int .i64 0,.int .i64 0,.int .i64 0,.int .i64 0,.int .i64 0,.int .i64 0]).cells (n-i)).toList++cur.toList.drop (i*10+(Builtin.zeroCells (Value.agg #[.int .i64 0,.int .i64 0,.int .i64 0,.int .i64 0,.int .i64 0,.int .i64 0,.int .i64 0,.int .i64 0,.int .i64 0,.int .i64 0]).cells (n-i)).toList.length)).toArray)=W5 at HC rQ HGX;have HF3:=Lib.hid f3;have hic:i≤c:=by omega
    have hiz1:(0:Int)≤(i:Int):=by omega
    have Z9:(i:Int)≤(n:Int):=by omega
    clear hcl hrow hzl hfit K hzv hzs f1 f2 f3 hz0 hz1 hz2 hi9 RN;have hci:¬c=i:=by omega
    have hcs:(c==i)=false:=by simpa using hci
    go_upto_region 11 with (fail);go_upto_region 12 with (refine uF _ rfl (.tmp 38) 30 rfl (.slice (some ⟨g,i*10,none⟩) (n-i) (c-i)) rfl HC.out ?_);go_wp2;go_ret;exact⟨by rw[←HF3.out];rfl,by rw[←HF3.out];exact rQ.out,HGX.out⟩
theorem Aa:(Tryz.prog.info? 75).map (fun i=>(i.zero,i.size,i.bytes))=some (some (Value.agg #[.int .i64 0,.int .i64 0,.int .i64 0,.int .i64 0,.int .i64 0,.int .i64 0]),6,48):=by kernel_rfl
theorem Ac (l:List bP):∀u∈l.flatMap ak,u.oneCell'=true:=by
 intro u hu;obtain⟨x,_,hx⟩:=List.mem_flatMap.1 hu;simp[ak]at hx;rcases hx with hx | hx | hx | hx | hx | hx<;>subst hx<;>rfl
set_option maxHeartbeats 1000000 in
theorem OD (l:List bP) (A:Option Addr) (n c:Nat) (w:World) (h:RA ak 6 w w.heap.size A n c l) (hn:n≤2000) :
  Calls Tryz.prog 137 #[.slice A n c] w fun e w'=>(∃v,e=.returned v∧w'.ownsRow w.heap.size 75 6 v l.length (l.flatMap ak))∧Ext w w':=by
 have hr:=h.rd;have hlen:=h.len;have heq:=fun (w:World) (a:Option Addr) (n c n' c':Nat)=>Lib.run_eql_slice_nil (P:=Tryz.prog) w 36 75 a n c n' c' Tryz.underlying36;cases A with
 |none =>
  have h0:n=0:=by
   rcases Nat.eq_zero_or_pos n with h0 | h0
   ·exact h0
   ·obtain⟨_,_,h,_⟩:=hr.2 h0;cases h
  subst h0;have hz:l=[]:=List.eq_nil_of_length_eq_zero hlen;subst hz;clear hr h hlen;go_enter Tryz.func137,Tryz.ntmps137;go_wp2;go_ret;exact⟨⟨_,rfl,World.ownsRow_nil _ _ _ _⟩,(by repeat (first | exact Below.refl _ _ | assumption | refine Below.drew ?_ | refine below_drewN ?_ _ | refine aj ?_ _ | refine Below.setCell ?_ (by first | (simp;done) | omega | (simp;omega)) _ | refine aA ?_ (by assumption)))⟩
 |some ad =>
  obtain⟨i0,hi,hz0,hz1,hz2⟩:=info_parts Aa;have H1:=Lib.hid (Ac l);have HLEN:=Lib.hid hlen;generalize hxs:l.flatMap ak=xs at hr H1;have qg:=Lib.hid hxs;have HR:=Lib.hid (hr.alloc (Nat.le_refl _) (.cells #[] 75));clear hr h hlen hxs;go_enter Tryz.func137,Tryz.ntmps137;go_wp2_with (at_builtin;refine nN _ rfl _ _ 36 rfl w.heap.size 75 i0 (Value.agg #[.int .i64 0,.int .i64 0,.int .i64 0,.int .i64 0,.int .i64 0,.int .i64 0]) 6 48 Tryz.underlying36 hi hz0 hz1 hz2 rfl (by decide) _ 0 [] rfl (World.ownsRow_made w #[] 0 (Nat.le_refl _) (by unfold maxLen;omega) rfl) w.heap.size (some ad) n c xs rfl HR.out H1.out (by unfold maxLen;omega) (by omega) (by simp) ?_);intro v' w' hown hg hat;go_wp2;go_ret;refine⟨⟨_,rfl,by rw[HLEN.out];simpa using hown⟩,?_⟩;exact (aj (Below.refl _ _) _).grown hg (by simp) (fun k hk=>by simp[Value.ownBlock]at hk;omega)
set_option maxRecDepth 100000 in
set_option maxHeartbeats 2000000 in
theorem Kt (p:bP→Bool) (K:Nat) (caps:Array Value) (eg:∀args w,(callFunc K args).run Tryz.prog w=.ok (.enter K args) w) (base g n c:Nat) (l:List bP) (w:World) (h:aW ak 6 base 75 g n c w l) (hn:n≤2000)
  (hp:∀(x:bP) (W:World),w.grownBy W (some g)→Calls Tryz.prog K (#[.agg (ak x).toArray]++caps) W fun e w'=>e=.returned (.bool (p x))∧Ext W w') :
  Calls Tryz.prog 136 #[.slice (some ⟨g,0,none⟩) n c,.func (.func K) #[] caps] w fun e w'=>e=.returned (.slice (some ⟨g,0,none⟩) (l.filter (fun x=>!p x)).length c)∧aW ak 6 base 75 g (l.filter (fun x=>!p x)).length c w' (l.filter (fun x=>!p x))∧w.grownBy w' (some g):=by
 have HI:=Lib.hid (DJ p K caps eg l (some ⟨g,0,none⟩) n c w (h.ra (by omega)) (fun x W hx=>hp x W (dM hx)));have hln:=h.1;have hcap:=h.le;have HR:=Lib.hid h;have HP:=Lib.hid hp;clear hp h;rcases NG p l 0 (Int.le_refl _)with hneg | hpos
 ·have hf:=Ho p l (by omega);rw[hf,hln];rw[hneg]at HI;clear hf hneg;go_enter Tryz.func136,Tryz.ntmps136;go_wp2_with fail;refine HI.out.mono ?_;rintro e w1 ⟨rfl,hx⟩;have HX:=Lib.hid hx;clear hx;go_wp2;go_ret;exact⟨rfl,HR.out.ext HX.out,dM HX.out⟩
 ·obtain⟨i0,hi0,hi1,hi2,hi3⟩:=Hq p l 0 (Int.le_refl _) hpos;rw[Int.zero_add]at hi1;rw[hi1]at HI;have HD:=Lib.hid (DI.start hi0 hi2 hi3);have hin:i0<n:=by omega
  clear hi1 hi2 hi3 hpos hi0;obtain⟨M,hM⟩:∃M,M=l.filter (fun x=>!p x):=⟨_,rfl⟩;rw[←hM];have HM:=Lib.hid hM;have uz:=Lib.hid hln;clear hM hln;have hcap1:=hcap.1;have hcap2:c≤9223372036854775807:=hcap.2;have hiz:((i0:Int) == -1)=false:=by first | (simp;done) | (simp;omega)
  go_enter Tryz.func136,Tryz.ntmps136;go_wp2_with fail;refine HI.out.mono ?_;rintro e w1 ⟨rfl,hx⟩;have hR1:aW ak 6 base 75 g n c w1 l:=HR.out.ext hx;have HR1:=Lib.hid hR1;have qZ:Hid (w.grownBy w1 (some g)):=Lib.hid (dM hx);clear hx hR1 HI;go_wp2;go_loopw [5,6] (fun x y wr=>∃(i j:Nat) (l':List bP),x=.int .i64 i∧y=.int .i64 j∧j≤n∧Hid (DI p l l' i j)∧Hid (aW ak 6 base 75 g n c wr l')∧Hid (w.grownBy wr (some g))) (fun _ y _=>n-(intOf y).toNat)
  case atStart=>exact⟨i0,i0+1,l,rfl,by first | rfl | simp,by omega,HD,HR1,qZ⟩
  case round =>
   clear HD HR1 qZ;obtain⟨i,j,l',rfl,rfl,hjn,HD,HR1,qZ⟩:=hrel;have hij:=HD.out.ij;by_cases hjl:j<n
   ·have hjz:(j:Int)<(n:Int):=by omega
    have Kr:j<l.length:=by rw[uz.out];exact hjl
    obtain⟨hz,hat⟩:=HD.out.at Kr;have hc:=HR1.out.range bg hz;have hsk:=fun h=>HD.out.skip Kr h;have hkp:=fun h=>HD.out.keep Kr h;rw[hat]at hc;generalize l[j]=x at hc hsk hkp;have hv:=fun W hW=>HP.out x W hW;have hst:=HR1.out.store (cells:=ak) bg (k:=i) (by rw[HD.out.len];omega) x;have hth:=HR1.out.there bg (k:=i) (by rw[HD.out.len];omega);have hx1:∀v∈ak x,v.oneCell'=true:=fun v hv=>Ac [x] v (by simpa using hv);obtain⟨X,hX⟩:∃X,(ak x).toArray=X:=⟨_,rfl⟩;rw[hX]at hv;have tH:X.size=6:=by rw[←hX];rfl
    have hX1:X.all (·.oneCell')=true:=by rw[←hX];exact all_oneCell_toArray hx1
    obtain⟨q,hq⟩:∃q,q=p x:=⟨_,rfl⟩;rw[←hq]at hv;have iP:=Lib.hid hX;have qg:=Lib.hid tH;have kC:=Lib.hid hX1;have Z7:=Lib.hid hx1;have qN:=Lib.hid hc;have HV:=Lib.hid hv;have Z8:=Lib.hid hsk;have NH:=Lib.hid hkp;have HQ:=Lib.hid hq;have KX:aG (wr.alloc (.cells X 75)) wr.heap.size 75 X:=aG.new _ _ _;have hxa:Ext wr (wr.alloc (.cells X 75)):=aj (Below.refl _ _) _;clear hc hv hsk hkp hX tH hX1 hx1 hq hat hz hst hth;go_upto_region 8 with (first | (refine ay rfl _ _ rfl g (j*6) rfl X (ak x) iP.out _ qN.out Tryz.underlying75 rfl bV ?_) | (refine aS rfl 75 _ _ rfl _ X rfl rfl (by rw[qg.out];exact bV) (by rw[qg.out];rfl) kC.out ?_));generalize wr.heap.size=g7 at KX⊢;generalize wr.alloc (.cells X 75)=W2 at KX hxa⊢;have HR2:=Lib.hid (HR1.out.ext hxa);have HG2:=Lib.hid (bD qZ.out (dM hxa));have WB:=Lib.hid (HV.out W2 HG2.out);have HK:=Lib.hid KX;clear KX hxa HR1 qZ HV;go_wp2_with (refine ay rfl _ _ rfl g7 0 rfl X (ak x) iP.out _ (aG.range HK.out (ak x) (by rw[←iP.out])) Tryz.underlying75 rfl bV ?_);refine WB.out.mono ?_;rintro e W3 ⟨rfl,hy⟩;have HR3:=Lib.hid (HR2.out.ext hy);have z_:=Lib.hid (bD HG2.out (dM hy));have HK3:=Lib.hid (HK.out.ext hy);clear hy WB HR2 HG2 HK;cases q
    ·have HD4:=Lib.hid (NH.out HQ.out.symm);have hil:i<l'.length:=by rw[HD.out.len];omega
     obtain⟨hst1,hst2⟩:=HR3.out.store (cells:=ak) bg (k:=i) hil x;have hth:=HR3.out.there bg (k:=i) hil;have Hu:=Lib.hid hst1;have o_:=Lib.hid (bD z_.out hst2);have Vp:=Lib.hid hth;have Z9:(i:Int)<(n:Int):=by omega
     have hiz3:¬(i:Int)<0:=by omega
     have hw1:IntKind.i64.wrap ((i:Int)+1)=(i:Int)+1:=IntWalk.i64_in _ (by omega);clear hst1 hst2 hth Z8 NH;go_upto_region 10 with (first | (refine ay rfl _ _ rfl g7 0 rfl X (ak x) iP.out _ (aG.range HK3.out (ak x) (by rw[←iP.out])) Tryz.underlying75 rfl bV ?_) | (refine dL rfl 75 _ _ rfl g (i*6) X (ak x) iP.out rfl rfl Vp.out bV Z7.out ?_));generalize W3.setCells g (i*6) (ak x)=W4 at Hu o_⊢;go_wp2;go_roundw
     case rel=>exact⟨i+1,j+1,_,by go_num,by go_num,by omega,HD4,Hu,o_⟩
     case measure=>simp[intOf];omega
    ·have HD4:=Lib.hid (Z8.out HQ.out.symm);clear Z8 NH;go_wp2;go_roundw
     case rel=>exact⟨i,j+1,l',rfl,by go_num,by omega,HD4,HR3,z_⟩
     case measure=>simp[intOf];omega
   ·have RN:j=l.length:=by have:=uz.out;omega
    have hjz:¬(j:Int)<(n:Int):=by omega
    obtain⟨f1,f2,f3⟩:=(RN ▸ HD.out:DI p l l' i l.length).fin;rw[←HM.out]at f1 f3;have hin2:i<n:=by have:=uz.out;omega
    obtain⟨i9,hi9,hz0,hz1,hz2⟩:=info_parts Aa;have hzl:=Hl (Value.agg #[.int .i64 0,.int .i64 0,.int .i64 0,.int .i64 0,.int .i64 0,.int .i64 0]).cells (n-i);have hzs:(Value.agg #[.int .i64 0,.int .i64 0,.int .i64 0,.int .i64 0,.int .i64 0,.int .i64 0]).cells.size=6:=rfl;rw[hzs]at hzl;obtain⟨cur,K,hfit,hrow⟩:=ND (cells:=ak) bg HR1.out (k:=i) (by omega) _ hzl;have hzv:∀w,(zeroValue 75).run Tryz.prog w=.ok (Value.agg #[.int .i64 0,.int .i64 0,.int .i64 0,.int .i64 0,.int .i64 0,.int .i64 0]) w:=fun _=>by kernel_rfl
    have hcl:=zZ (P:=Tryz.prog) wr 36 75 0 (Value.agg #[.int .i64 0,.int .i64 0,.int .i64 0,.int .i64 0,.int .i64 0,.int .i64 0]) Tryz.underlying36 hzv (n-i) (by omega) (DK _ (by decide) _ (by decide)) g (i*6) (c-i) cur 75 K hfit;rw[f1]at hrow;have HC:=Lib.hid hcl;have rQ:=Lib.hid hrow;have HGX:Hid (w.grownBy (wr.setRow g (cur.toList.take (i*6)++(Builtin.zeroCells (Value.agg #[.int .i64 0,.int .i64 0,.int .i64 0,.int .i64 0,.int .i64 0,.int .i64 0]).cells (n-i)).toList++cur.toList.drop (i*6+(Builtin.zeroCells (Value.agg #[.int .i64 0,.int .i64 0,.int .i64 0,.int .i64 0,.int .i64 0,.int .i64 0]).cells (n-i)).toList.length)).toArray) (some g)):=Lib.hid (bD qZ.out ⟨rfl,rfl,rfl,by rw[setRow_size];exact Nat.le_refl _,fun k _ hne=>setRow_other _ _ _ _ (fun e=>hne (by rw[e]))⟩);generalize (wr.setRow g (cur.toList.take (i*6)++(Builtin.zeroCells (Value.agg #[.int .i64 0,.int .i64 0,.int .i64 0,.int .i64 0,.int .i64 0,.int .i64 0]).cells (n-i)).toList++cur.toList.drop (i*6+(Builtin.zeroCells (Value.agg #[.int .i64 0,.int .i64 0,.int .i64 0,.int .i64 0,.int .i64 0,.int .i64 0]).cells (n-i)).toList.length)).toArray)=W5 at HC rQ HGX;have HF3:=Lib.hid f3;have hic:i≤c:=by omega
    have hiz1:(0:Int)≤(i:Int):=by omega
    have Z9:(i:Int)≤(n:Int):=by omega
    clear hcl hrow hzl hfit K hzv hzs f1 f2 f3 hz0 hz1 hz2 hi9 RN;have hci:¬c=i:=by omega
    have hcs:(c==i)=false:=by simpa using hci
    go_upto_region 11 with (fail);go_upto_region 12 with (refine uF _ rfl (.tmp 38) 36 rfl (.slice (some ⟨g,i*6,none⟩) (n-i) (c-i)) rfl HC.out ?_);go_wp2;go_ret;exact⟨by rw[←HF3.out];rfl,by rw[←HF3.out];exact rQ.out,HGX.out⟩
end Go.Proofs.YtjidhhfabfnhnaaGreat
namespace Go.Proofs.YtjidhhfabfnhnaaGreat
open Go.RowKit
theorem Ku (u:fE) (gs:Nat) (id:Int) (P:Array Value) (w:World) (kp:aG w gs 53 P) (p0:P[0]?=some (.int .i64 id)) :
  Calls Tryz.prog 111 #[.agg (aI u).toArray,.pointer (some ⟨gs,0,none⟩)] w fun e w'=>e=.returned (.bool (u.sat != id))∧Ext w w':=by
 obtain⟨X,hX⟩:∃X,X=(aI u).toArray:=⟨_,rfl⟩;have x0:X[0]?=some (.int .i64 u.sat):=by rw[hX];rfl
 rw[←hX];clear hX;have hx:Ext w (w.alloc (.cells X 66)):=aj (Below.refl _ _) _;have J:=aG.new w 66 X;have KU:=kp.ext hx;have HX:=Lib.hid hx;clear hx;go_enter Tryz.func111,Tryz.ntmps111;go_upto_region 1 with (fail);generalize w.alloc _=W at J KU HX⊢;generalize w.heap.size=g at J⊢;have u0:W.cell? ⟨g,0,none⟩=some (.int .i64 u.sat):=by rw[J.cell];exact x0
 have u1:W.cell? ⟨gs,0,none⟩=some (.int .i64 id):=by rw[KU.cell];exact p0
 clear p0 x0 J KU;go_wp2;go_ret;exact⟨rfl,HX.out⟩
theorem Kv (id:Int) (l:List fE):l.filter (fun u=>!(u.sat != id))=t_ id l:=by
 unfold t_;congr 1
 funext u
 simp[bne]
theorem Kw (K:Nat) (caps:Array Value) (w:World) :
  Calls Tryz.prog 109 #[.slice none 0 0,.func (.func K) #[] caps] w fun e w'=>e=.returned (.slice none 0 0)∧Ext w w':=by
 have hi:Calls Tryz.prog 150 #[.slice none 0 0,.func (.func K) #[] caps] w fun e w'=>e=.returned (.int .i64 (-1))∧Ext w w':=by
  go_enter Tryz.func150,Tryz.ntmps150;go_wp2;go_loopw [8] (fun i wr=>i=.int .i64 0∧wr=w) (fun _ _=>0)
  case atStart=>exact⟨rfl,rfl⟩
  case round =>
   obtain⟨rfl,rfl⟩:=hrel;go_wp2;go_ret;exact⟨rfl,Ext.refl _⟩
 have HI:=Lib.hid hi;clear hi;go_enter Tryz.func109,Tryz.ntmps109;go_wp2_with fail;refine HI.out.mono ?_;rintro e w1 ⟨rfl,hx⟩;have HX:=Lib.hid hx;clear hx;go_wp2;go_ret;exact⟨rfl,HX.out⟩
theorem Ad:(Tryz.prog.info? 53).map (fun i=>(i.zero.map (fun z=>z.cells.size),i.size))=some (some 21,21):=by kernel_rfl
theorem zk (x:St) (X:Array Value) (h:(aC x).toArray=X):X.size=21∧X.all (·.oneCell')=true∧X[0]?=some (.int .i64 x.id):=by
 subst h;exact⟨rfl,nU x,rfl⟩
set_option maxRecDepth 100000 in
set_option maxHeartbeats 2000000 in
theorem yF (x:St) (l:List fE) (A:Option Addr) (n c:Nat) (w:World) (h:RA aI 10 w w.heap.size A n c l) (hn:n≤2000) :
  Calls Tryz.prog 52 #[.agg (aC x).toArray,.slice A n c] w fun e w'=>e=.returned (.bool (qj x l))∧Ext w w':=by
 have Yy:=Lib.hid (fun (W:World) (hx:Ext w W)=>OC l A n c W (aB h hx) hn);obtain⟨P,hP⟩:∃P,(aC x).toArray=P:=⟨_,rfl⟩;obtain⟨Cj,hP1,p0⟩:=zk x P hP;rw[hP];have hln:=h.len;obtain⟨V,hV⟩:∃V,V=qj x l:=⟨_,rfl⟩;rw[←hV];have HV:Hid (V=fV [x] (t_ x.id l)):=Lib.hid hV;have oH:=Lib.hid hP;have ug:=Lib.hid Cj;have hx:Ext w (w.alloc (.cells P 53)):=aj (Below.refl _ _) _;have J:=aG.new w 53 P;clear hP Cj hP1 h hV;go_enter Tryz.func52,Tryz.ntmps52;go_upto_region 1 with (fail);generalize w.alloc (.cells P 53)=W1 at J hx⊢;generalize w.heap.size=g2 at J⊢;go_wp2_with fail;refine (Yy.out W1 hx).mono ?_;rintro e W2 ⟨⟨v,rfl,hown⟩,hy⟩;have Yz:=Lib.hid J;have J:=J.ext hy;have RQ:Hid (Calls Tryz.prog 109 #[v,.func (.func 111) #[] #[.pointer (some ⟨g2,0,none⟩)]] W2 fun e w'=>(∃A' c',e=.returned (.slice A' (t_ x.id l).length c')∧RA aI 10 w' w'.heap.size A' (t_ x.id l).length c' (t_ x.id l))∧Ext W1 w'):=Lib.hid (by
  rcases hown.2 with ⟨rfl,h0⟩ | ⟨g,cap,cur,rfl,hbg,hgg,r⟩
  ·obtain rfl:l=[]:=List.eq_nil_of_length_eq_zero h0;refine (Kw 111 #[.pointer (some ⟨g2,0,none⟩)] W2).mono ?_;rintro e w' ⟨rfl,hy2⟩;exact⟨⟨none,0,rfl,⟨⟨by simp[t_],fun h=>by simp[t_]at h⟩,rfl,Nat.zero_le _,Nat.zero_le _,by simp[t_]⟩⟩,Ext.trans hy hy2⟩
  ·have hrow:aW aI 10 W1.heap.size 66 g l.length cap W2 l:=⟨rfl,hown⟩;have hne:g2≠g:=fun e=>by have:=J.lt;have h1:=(World.ownsRow.lt hown g rfl).1;subst e;exact absurd hgg (by
    intro WC;have h2:W2.heap[g2]?=some (.cells P 53 (0,0)):=J;rw[h2]at WC;injection WC with WC;injection WC with _ ht
    revert ht
    decide)
   refine (Kq (fun u=>u.sat != x.id) 111 #[.pointer (some ⟨g2,0,none⟩)] (enters_of Tryz.func111 (by kernel_rfl) rfl) W1.heap.size g l.length cap l W2 hrow (by omega) (fun u W hu=>Ku u g2 x.id P W (J.grown hu (fun e=>by injection e with e;exact hne e)) p0)).mono ?_;rintro e w' ⟨rfl,hr,hg⟩;rw[Kv]at hr⊢;have hlen:(t_ x.id l).length≤l.length:=List.length_filter_le _ _;exact⟨⟨_,_,rfl,hr.ra (by omega)⟩,hy.grown hg (Below.size hy) (fun q e=>by injection e with e;omega)⟩)
 clear hown hy p0 J Yy;go_wp2_with fail;refine RQ.out.mono ?_;rintro e W3 ⟨⟨A',c',rfl,hra⟩,hy⟩;have hx3:=Ext.trans hx hy;have xg:=Lib.hid hra;have HJ:=Lib.hid (Yz.out.ext hy);have Nj:=Lib.hid hx3;clear hra hy hx3 hx Yz RQ;have K:=aG.new W3 53 P;have hxa:Ext W3 (W3.alloc (.cells P 53)):=aj (Below.refl _ _) _;have WB:Hid (Calls Tryz.prog 24 #[.slice (some ⟨W3.heap.size,0,none⟩) 1 1,.slice A' (t_ x.id l).length c'] (W3.alloc (.cells P 53)) fun e w'=>e=.returned (.bool V)∧Ext W3 w'):=Lib.hid (by
  rw[HV.out];refine (qm [x] (t_ x.id l) (some ⟨W3.heap.size,0,none⟩) A' 1 1 (t_ x.id l).length c' _ (RA.one (gJ x) (by rw[oH.out];exact K)) (aB xg.out hxa)).mono ?_;rintro e w' ⟨h1,h2⟩;exact⟨h1,Ext.trans hxa h2⟩)
 clear K hxa;go_wp2_with (first | (refine ay rfl _ _ rfl g2 0 rfl P (aC x) oH.out _ (aG.range HJ.out (aC x) (by rw[←oH.out])) Tryz.underlying53 rfl aQ ?_) | (refine bY rfl _ _ _ rfl P rfl Tryz.underlying28 21 Ad ug.out (by omega) (by omega) ?_));refine WB.out.mono ?_;rintro e W4 ⟨rfl,hy⟩;have RJ:=Lib.hid (Ext.trans Nj.out hy);go_wp2;go_ret;exact⟨rfl,RJ.out⟩
theorem lC {P:Program} {ops:Array Oper} {rest:List Oper} {o:Oper} {a:Act} {w:World} {Q:Exit→Act→World→Prop} (hg:o.guard=none) (t:TypeId) (x y z:Operand) (ho:o.op=.build t #[(0,x),(1,y),(2,z)]) {vx vy vz:Value} (X:Array Value)
  (hx:a.eval x=vx) (hy:a.eval y=vy) (hz:a.eval z=vz) (hb:P.built t [(0,vx),(1,vy),(2,vz)]=some X) (h:wpList P ops Q rest (a.put o.dst (.agg X)) w):wpList P ops Q (o::rest) a w:=by
 have e:(#[(0,x),(1,y),(2,z)].map fun ((i,x):Nat×Operand)=>(i,a.eval x)).toList=[(0,vx),(1,vy),(2,vz)]:=by simp[hx,hy,hz]
 refine wpList_build hg t _ ho (by rw[e,hb];rfl) ?_;rw[e,hb];exact h
set_option maxRecDepth 100000 in
theorem tJ (x:St) (A:Option Addr) (n c:Nat) (kn:Int):Tryz.prog.built 117 [(0,.agg (aC x).toArray),(1,.slice A n c),(2,.int .i64 kn)]=some (dZ x A n c kn).toArray:=by
 obtain⟨id,ow,⟨p,f,lo,hi,no,tu,sl⟩,wi,st,ch,su,rH,sh,se,wa,co,ho,sw,ra⟩:=x;kernel_rfl
def Z_ (o:Option iM):Value:=match o with
 |none=>.tuple #[.agg #[.int .i64 0,.int .i64 0,.int .i64 0,.int .i64 0,.int .i64 0,.int .i64 0,.int .i64 0],.int .i64 360]
 |some o=>.tuple #[.agg (aN o).toArray,.int .i64 0]
set_option maxRecDepth 100000 in
set_option maxHeartbeats 2000000 in
theorem DL (x:St) (l:List fE) (A:Option Addr) (n c:Nat) (t kn:Int) (w:World) (h:RA aI 10 w w.heap.size A n c l) (hn:n≤2000) :
  Calls Tryz.prog 17 #[.agg (aC x).toArray,.slice A n c,.int .i64 t,.int .i64 kn] w fun e w'=>e=.returned (Z_ (oD x l t kn))∧Ext w w':=by
 have hval:=fun (W:World) (hx:Ext w W)=>yF x l A n c W (aB h hx) hn;have CW:=fun (W:World) (hx:Ext w W)=>Nw x l A n c kn t W (aB h hx);have hbu:=tJ x A n c kn;obtain⟨P,hP⟩:∃P,(aC x).toArray=P:=⟨_,rfl⟩;obtain⟨Z,hZ⟩:∃Z,(dZ x A n c kn).toArray=Z:=⟨_,rfl⟩;rw[hP]at hval hbu;rw[hZ]at CW hbu;rw[hP];obtain⟨Y,hY⟩:∃Y,(aN (fK x l kn t)).toArray=Y:=⟨_,rfl⟩;obtain⟨hYs,Jw⟩:=zi _ Y hY;rw[hY]at CW;have hin:=zh t 0 1000000;obtain⟨R,hR⟩:∃R,R=oD x l t kn:=⟨_,rfl⟩;rw[←hR];unfold oD at hR;generalize inB t 0 1000000=q1 at hin hR;generalize qj x l=q2 at hval hR;have HR:=Lib.hid hR;have xB:=Lib.hid hval;have Ky:=Lib.hid CW;have HIN:=Lib.hid hin;have Qr:=Lib.hid hbu;have oH:=Lib.hid hP;have vC:=Lib.hid hY;have Gs:=Lib.hid hYs;have V8:=Lib.hid Jw;have hxa:Ext w ((w.alloc (.cells P 53)).alloc (.cells #[.int .i64 0,.int .i64 0,.int .i64 0,.int .i64 0,.int .i64 0,.int .i64 0,.int .i64 0] 51)):=aj (aj (Below.refl _ _) _) _;have J4:=(aG.new w 53 P).ext (aj (Below.refl _ _) (.cells #[.int .i64 0,.int .i64 0,.int .i64 0,.int .i64 0,.int .i64 0,.int .i64 0,.int .i64 0] 51));have J8:=aG.new (w.alloc (.cells P 53)) 51 #[.int .i64 0,.int .i64 0,.int .i64 0,.int .i64 0,.int .i64 0,.int .i64 0,.int .i64 0];rw[World.size_alloc]at J8;have hg8:w.heap.size≤w.heap.size+1:=by omega
 clear hR hval CW hin hbu hP hZ hY hYs Jw h;go_enter Tryz.func17,Tryz.ntmps17;go_upto_region 1 with (fail);generalize (w.alloc (.cells P 53)).alloc (.cells #[.int .i64 0,.int .i64 0,.int .i64 0,.int .i64 0,.int .i64 0,.int .i64 0,.int .i64 0] 51)=W1 at J4 J8 hxa⊢;generalize w.heap.size+1=g8 at J8 hg8⊢;obtain⟨g4,hg4⟩:∃g,g=w.heap.size:=⟨_,rfl⟩;rw[←hg4]at J4⊢;have RV:=Lib.hid hg8;clear hg4 hg8;go_wp2_with fail;refine (HIN.out _).mono ?_;rintro e w1 ⟨rfl,rfl⟩;have qY:=Lib.hid J4;have uP:=Lib.hid J8;clear J4 J8;cases q1
 ·obtain rfl:R=none:=by rw[HR.out];simp
  have hxn:=below_setRow hxa (g:=g8) RV.out #[.int .i64 0,.int .i64 0,.int .i64 0,.int .i64 0,.int .i64 0,.int .i64 0,.int .i64 0];have JN:=uP.out.row #[.int .i64 0,.int .i64 0,.int .i64 0,.int .i64 0,.int .i64 0,.int .i64 0,.int .i64 0];clear hxa;go_wp2_with (refine wpList_store_row rfl 51 _ _ rfl g8 #[.int .i64 0,.int .i64 0,.int .i64 0,.int .i64 0,.int .i64 0,.int .i64 0,.int .i64 0] rfl rfl 51 _ uP.out aZ rfl (by simp[Value.oneCell']) ?_);exact bodyPost_ret (fU Tryz.results17 _ _ g8 _ (.int .i64 360) rfl rfl JN _ Tryz.underlying51 rfl aZ) rfl ⟨rfl,hxn⟩
 ·go_wp2_with (refine aT rfl _ _ rfl g4 0 rfl P (aC x) oH.out _ (aG.range qY.out (aC x) (by rw[←oH.out])) Tryz.underlying53 rfl aQ ?_);refine (xB.out _ hxa).mono ?_;rintro e W2 ⟨rfl,hy⟩;have hx2:=Ext.trans hxa hy;have qY:=Lib.hid (qY.out.ext hy);have uP:=Lib.hid (uP.out.ext hy);clear hxa hy;cases q2
  ·obtain rfl:R=none:=by rw[HR.out];simp
   have hxn:=below_setRow hx2 (g:=g8) RV.out #[.int .i64 0,.int .i64 0,.int .i64 0,.int .i64 0,.int .i64 0,.int .i64 0,.int .i64 0];have JN:=uP.out.row #[.int .i64 0,.int .i64 0,.int .i64 0,.int .i64 0,.int .i64 0,.int .i64 0,.int .i64 0];clear hx2;go_wp2_with (refine wpList_store_row rfl 51 _ _ rfl g8 #[.int .i64 0,.int .i64 0,.int .i64 0,.int .i64 0,.int .i64 0,.int .i64 0,.int .i64 0] rfl rfl 51 _ uP.out aZ rfl (by simp[Value.oneCell']) ?_);exact bodyPost_ret (fU Tryz.results17 _ _ g8 _ (.int .i64 360) rfl rfl JN _ Tryz.underlying51 rfl aZ) rfl ⟨rfl,hxn⟩
  ·obtain rfl:R=some (fK x l kn t):=by rw[HR.out];simp
   go_wp2_with (first | (refine ay rfl _ _ rfl g4 0 rfl P (aC x) oH.out _ (aG.range qY.out (aC x) (by rw[←oH.out])) Tryz.underlying53 rfl aQ ?_) | (refine lC rfl _ _ _ _ rfl Z rfl rfl rfl Qr.out ?_));refine (Ky.out _ hx2).mono ?_;rintro e W3 ⟨rfl,hy⟩;have uP:=Lib.hid (uP.out.ext hy);have hxn:=below_setRow (Ext.trans hx2 hy) (g:=g8) RV.out Y;have JN:=uP.out.row Y;clear hx2 hy;go_wp2_with (refine wpList_store_row rfl 51 _ _ rfl g8 Y rfl rfl 51 _ uP.out (by rw[Gs.out];exact aZ) (by rw[Gs.out];rfl) V8.out ?_);exact bodyPost_ret (fU Tryz.results17 _ _ g8 Y (.int .i64 0) rfl rfl JN _ Tryz.underlying51 rfl (by rw[Gs.out];exact aZ)) rfl ⟨by rw[Z_,vC.out],hxn⟩
end Go.Proofs.YtjidhhfabfnhnaaGreat
namespace Go.Proofs.YtjidhhfabfnhnaaGreat
open Go.RowKit Go.Shelf
def aac {α:Type} (n:Nat) (P:Program) (g:Nat) (lb:Array Value) (encs:α→Array Value) (Kp:World→World→Prop) (G:List α→World→Prop) (S Sp:List α→Prop) (N:Nat) (w:World):Prop :=
 ∀(l:Nat) (J Jx:List α→World→Prop) (W:World),Ext w W→AbidesFrom W.heap.size J→AbidesFrom W.heap.size Jx→(∀pre X,J pre X→G pre X) →
  (∀pre x X,J pre X→pre.length<N→YieldAt Fence.wide (n-1) P l (encs x) X fun e Y=>(e=.returned (.bool true)∧J (pre++[x]) Y∧Kp X Y)∨(e=.returned (.bool false)∧Jx (pre++[x]) Y)) →
  J [] W→CallsIn Fence.wide n P g (#[.func (.yield l) #[] #[]]++lb) W fun e Y=>(∃v,e=.returned v)∧((∃xs,S xs∧J xs Y)∨(∃pre,Sp pre∧Jx pre Y))
def Bk (d:Nat) (r:Loop) (W:World):Prop:=W.heap[d+1]?=some (.loop r)∧W.heap[d]?=some (.deferred (some []))
section
variable {d:Nat} {r:Loop} {X Y:World}
theorem Bk.lt (h:Bk d r X):d+1<X.heap.size:=(Array.getElem?_eq_some_iff.1 h.1).1
theorem Bk.keeps (h:Bk d r X) (k:KeepsFrom d X Y):Bk d r Y:=⟨k.same _ _ (by omega) h.1 rfl,k.same _ _ (Nat.le_refl _) h.2 rfl⟩
theorem Bk.turn (h:Bk d r X) (r':Loop):Bk d r' (X.putObj (d+1) (.loop r')):=⟨World.putObj_heap_same h.lt,(World.putObj_heap_other (by omega)).trans h.2⟩
theorem Bk.abide {B:Nat} (hB:d+2≤B) {row:Option Nat} (h:Bk d r X) (hg:X.grownBy Y row) (hr:∀q,row=some q→B≤q∧∃o:Obj,X.heap[q]?=some o∧o.isWalk=true):Bk d r Y :=
 have hne:∀k,k<B→some k≠row:=fun k hk e=>by have:=(hr k e.symm).1;omega
 ⟨(hg.block _ h.lt (hne _ (by omega))).trans h.1,(hg.block _ (by have:=h.lt;omega) (hne _ (by omega))).trans h.2⟩
end
theorem uG {α:Type} {n:Nat} {P:Program} {op:Operand} {ps:Array Tmp} {assign body:Code} {Q:Exit→Act→World→Prop} {a:Act} {w:World}
  (h1:1≤n) {gf:Nat} {lb:Array Value} (hg:a.eval op=.func (.func gf) #[] lb) (eg:∀args w,(callFunc gf args).run P w=.ok (.enter gf args) w)
  {encs:α→Array Value} {Kp:World→World→Prop} {G:List α→World→Prop} {S Sp:List α→Prop} {N:Nat} (hseq:aac (n-1) P gf lb encs Kp G S Sp N w)
  (hKt:∀ {A B C:World},Kp A B→Kp B C→Kp A C) (hKb:∀(W:World) (l:Nat) (o o':Obj),w.heap.size≤l→W.heap[l]?=some o→o.isCells=false→Kp W (W.putObj l o')) (hps:∀x,(encs x).size=ps.size)
  (I:List α→World→Prop) (Ix:Code→List α→World→Prop) (hIG:∀pre W,I pre W→G pre W) (hI:OwnFrom w.heap.size I) (hIx:∀c,OwnFrom w.heap.size (Ix c)) (h0:I [] w)
  (Ax:α→Act→World→Prop) (hAx:∀x a',OwnFrom w.heap.size (fun (_:Unit) W=>Ax x a' W))
  (hassign:∀(l:Nat) (pre:List α) (x:α) (W:World) (K:Act→World→Prop),I pre W→(∀a' W',KeepsFrom w.heap.size W W'→Kp W W'→I pre W'→Ax x a' W'→K a' W') →
   assign.wpIn (Fence.wide.inRound l) (n-1-1) P (Exit.then K (fun _ _ _=>False)) { tmps:=(ps.zip (encs x)).foldl (fun t (p,v)=>t.setIfInBounds p v) a.tmps,defers:=[] } W)
  (hbody:∀(l:Nat) (pre:List α) (x:α) (a':Act) (W:World),I pre W→Ax x a' W→pre.length<N→body.wpIn (Fence.wide.inRound l) (n-1-1) P (ownPostG w.heap.size Kp I Ix (pre++[x]) W) a' W)
  (hdone:∀(D:Nat) (xs:List α) (W:World),w.heap.size≤D→S xs→I xs W→W.heap[D]?=some (.deferred (some []))→Q .normal { a with defers:={ target:=.collected D,args:=#[] } :: a.defers } W)
  (hstop:∀(D:Nat) (c:Code) (pre:List α) (W:World),w.heap.size≤D→Sp pre→Ix c pre W→W.heap[D]?=some (.deferred (some []))→c.wpIn Fence.wide n P Q { a with defers:={ target:=.collected D,args:=#[] } :: a.defers } W) :
  (Code.rangeFunc op ps assign body).wpIn Fence.wide n P Q a w:=by
 refine wpIn_rangeFunc fun fn hfn=>?_;obtain⟨d,hd⟩:∃d,d=w.heap.size:=⟨_,rfl⟩;obtain⟨rc,hrc⟩:∃rc:LoopState→Option Code→Loop,rc=fun st pe=>{ state:=st,pending:=pe,fn,tmps:=a.tmps,params:=ps,assign,body,defers:=d }:=⟨_,rfl⟩;obtain⟨V,hV⟩:∃V,V=(w.alloc (.deferred (some []))).alloc (.loop (rc .ready none)):=⟨_,rfl⟩;have hVz:V.heap.size=d+2:=by rw[hV,World.size_alloc,World.size_alloc,hd]
 have hBV:Bk d (rc .ready none) V:=by
  subst hV hd;refine⟨?_,(Below.heap_alloc _ _ _ (by simp)).trans (World.alloc_heap_new w _)⟩;have:=World.alloc_heap_new (w.alloc (.deferred (some []))) (.loop (rc .ready none));rwa[World.size_alloc]at this
 have hIV:I [] V:=by subst hV;exact hI.alloc _ (hI.alloc _ h0)
 have hxV:Ext w V:=by subst hV;exact aj (aj (Below.refl _ _) _) _
 refine⟨d+1,[{ target:=.collected d,args:=#[] }],V,{ target:=.fn (.func gf) lb,args:=#[.func (.yield (d+1)) #[] #[]] },V,gf,#[.func (.yield (d+1)) #[] #[]]++lb,V,?_,?_,?_,?_,fun _=>h1,?_⟩
 ·have h:=run_enterLoop_outer (P:=P) (w:=w) fn a.tmps ps assign body;subst hV hrc hd;exact h
 ·simp only[resolve,hg];simp[go_sem]
 ·intro f' _;trivial
 ·simp[invoke,go_sem,eg]
 have kD:∀ {A B:World},KeepsFrom w.heap.size A B→KeepsFrom d A B:=fun h=>by rw[hd];exact h
 have Hw:∀(W:World) (r r':Loop),Bk d r W→Kp W (W.putObj (d+1) (.loop r')):=fun W r r' h=>hKb W (d+1) _ _ (by omega) h.1 rfl;have rU:∀ {β:Type} {J:β→World→Prop} (s:β) (W:World) (r r':Loop),OwnFrom w.heap.size J→Bk d r W→J s W→J s (W.putObj (d+1) (.loop r')):=fun s W r r' h hb hj=>h.putObj _ hj (by omega) hb.1 rfl;have Ae:∀ {A:World} {row:Option Nat},(∀q,row=some q→V.heap.size≤q∧∃o:Obj,A.heap[q]?=some o∧o.isWalk=true)→∀q,row=some q→w.heap.size≤q∧∃o:Obj,A.heap[q]?=some o∧o.isCells=false:=fun h q e=>by
  obtain⟨hq,o,ho,hw⟩:=h q e;exact⟨by omega,o,ho,Obj.not_cells_of_walk hw⟩
 refine (hseq (d+1) (fun pre W=>I pre W∧Bk d (rc .ready none) W) (fun pre W=>∃c,Ix c pre W∧Bk d (rc .done (some c)) W) V hxV
  (fun s A B row h hgr hr=>⟨hI s A B row h.1 hgr (Ae hr),h.2.abide (by omega) hgr hr⟩) (fun s A B row h hgr hr=>?_) (fun pre X h=>hIG pre X h.1) (fun pre x X h hlen=>?_) ⟨hIV,hBV⟩).mono ?_
 ·obtain⟨c,hc,hb⟩:=h;exact⟨c,hIx c s A B row hc hgr (Ae hr),hb.abide (by omega) hgr hr⟩
 ·obtain⟨hi,hb⟩:=h;have hy:=run_yield (P:=P) (args:=encs x) hb.1 (by rw[hrc];exact hps x);rw[hrc]at hy;refine⟨fn,_,assign,body,hy,roundIn_of_wpIn hfn (hassign _ pre x X _ hi fun a' Y hk hp hi' hax=>?_)⟩;clear hy;have hb:=hb.keeps (kD hk);refine⟨_,run_beginRound hb.1 (by rw[hrc]),?_⟩;have hb2:=hb.turn { rc .ready none with state:=.busy };have hp2:=hKt hp (Hw Y _ { rc .ready none with state:=.busy } hb);refine wpIn_mono (hbody _ pre x a' _ (rU _ Y _ _ hI hb hi') (rU (J:=fun (_:Unit) W=>Ax x a' W) () Y _ _ (hAx x a') hb hax) hlen) ?_;have fin:∀(jump:Option Code) (Z:World),KeepsFrom w.heap.size (Y.putObj (d+1) (.loop { rc .ready none with state:=.busy })) Z →
    (Instr.endRound (d+1) jump).run P Z=.ok (.bool jump.isNone) (Z.putObj (d+1) (.loop (rc (if jump.isNone then .ready else .done) jump)))∧Bk d { rc .ready none with state:=.busy } Z:=fun jump Z hk=>by
   have hb3:=hb2.keeps (kD hk);have h:=run_endRound (P:=P) jump hb3.1;rw[hrc]at h⊢;exact⟨h,by rw[hrc]at hb3;exact hb3⟩
  intro e a3 Z hp3
  match e,hp3 with
  |.normal,⟨hk,hkp,hi3⟩ =>
   obtain⟨hr,hb3⟩:=fin none Z hk;exact⟨_,_,hr,.inl ⟨rfl,⟨rU _ Z _ _ hI hb3 hi3,hb3.turn _⟩,hKt hp2 (hKt hkp (Hw Z _ _ hb3))⟩⟩
  |.ret,⟨hk,hi3⟩ =>
   obtain⟨hr,hb3⟩:=fin (some .ret) Z hk;exact⟨_,_,hr,.inr ⟨rfl,.ret,rU _ Z _ _ (hIx _) hb3 hi3,hb3.turn _⟩⟩
  |.exit id,⟨hk,hi3⟩ =>
   obtain⟨hr,hb3⟩:=fin (some (.exit id)) Z hk;exact⟨_,_,hr,.inr ⟨rfl,.exit id,rU _ Z _ _ (hIx _) hb3 hi3,hb3.turn _⟩⟩
  |.goto t,⟨hk,hi3⟩ =>
   obtain⟨hr,hb3⟩:=fin (some (.goto t)) Z hk;exact⟨_,_,hr,.inr ⟨rfl,.goto t,rU _ Z _ _ (hIx _) hb3 hi3,hb3.turn _⟩⟩
 ·rintro e Z ⟨⟨v,rfl⟩,⟨xs,hS,hi,hb⟩ | ⟨pre,hSp,c,hi,hb⟩⟩
  ·have h:=run_endLoop (P:=P) hb.1 (by rw[hrc];simp);rw[hrc]at h;exact⟨none,_,h,hdone d xs _ (by omega) hS (rU _ Z _ _ hI hb hi) (hb.turn _).2⟩
  ·have h:=run_endLoop (P:=P) hb.1 (by rw[hrc];simp);rw[hrc]at h;exact⟨some c,_,h,hstop d c pre _ (by omega) hSp (rU _ Z _ _ (hIx c) hb hi) (hb.turn _).2⟩
end Go.Proofs.YtjidhhfabfnhnaaGreat
