/- 'append(append([]E{}, a...), b...)': the copy, and the append behind it, which may happen in place. -/
import Derived.Test.YtjidhhfabfnhnaaGreatN04
import Derived.Test.YtjidhhfabfnhnaaGreatN02
import Derived.ArgAppend
namespace Go.Proofs.YtjidhhfabfnhnaaGreat
open Go.RowKit
structure TP (N0:Nat) (G:List Value) (mx:Nat) (w w':World):Prop where
 low:Below N0 w w'
 new:∀(b:Nat) (cs:Array Value) (t:TypeId),w.heap[b]?=some (Obj.cells cs t (0,0))→∃cs':Array Value,w'.heap[b]?=some (Obj.cells cs' t (0,0))∧cs'.size=cs.size∧(cs'=cs∨(mx<cs.size∧cs'.toList.take G.length=G))
section
variable {N0 mx:Nat} {G:List Value} {w w' w'':World}
theorem TP.refl (w:World):TP N0 G mx w w:=⟨Below.refl _ _,fun _ cs _ h=>⟨cs,h,rfl,.inl rfl⟩⟩
theorem TP.trans (h:TP N0 G mx w w') (k:TP N0 G mx w' w''):TP N0 G mx w w'' :=
 ⟨Below.trans h.low k.low,fun b cs t hb=>by
  obtain⟨c1,h1,h2,h3⟩:=h.new b cs t hb;obtain⟨c2,k1,k2,k3⟩:=k.new b c1 t h1;refine⟨c2,k1,k2.trans h2,?_⟩;rcases k3 with rfl | ⟨k3,k4⟩
  ·exact h3
  ·exact .inr ⟨by omega,k4⟩⟩
theorem tp_tr (N0:Nat) (G:List Value) (mx:Nat):RB.Tr (TP N0 G mx):=⟨TP.refl,TP.trans⟩
theorem TP.ext (h:Ext w w') (h0:N0≤w.heap.size):TP N0 G mx w w':=⟨h.mono h0,fun b cs _ hb=>⟨cs,(h.block b (Array.getElem?_eq_some_iff.1 hb).1).trans hb,rfl,.inl rfl⟩⟩
theorem TP.aG (h:TP N0 G mx w.drew w'):TP N0 G mx w w':=⟨⟨h.low.os,h.low.tape,h.low.output,h.low.size,h.low.block⟩,h.new⟩
theorem TP.size (h:TP N0 G mx w w'):w.heap.size≤w'.heap.size:=h.low.size
theorem TP.cell (h:TP N0 G mx w w') {p:Addr} {v:Value} (hc:w.cell? p=some v) (hp:p.block<N0):w'.cell? p=some v:=(World.cell?_of_block (h.low.block p.block hp)).trans hc
theorem TP.blk (h:TP N0 G mx w w') {g:Nat} {t:TypeId} {cs:Array Value} (hb:aI w g t cs) (hs:cs.size≤mx):aI w' g t cs:=by
 obtain⟨c1,h1,_,h3⟩:=h.new g cs t hb;rcases h3 with rfl | ⟨h3,_⟩
 ·exact h1
 ·omega
theorem TP.own (h:TP N0 G mx w w') {b:Nat} {e:TypeId} {s n:Nat} {v:Value} {xs:List Value} (ho:w.ownsRow b e s v n xs) (hm:xs <+: G):w'.ownsRow b e s v n xs:=by
 refine⟨ho.1,?_⟩;rcases ho.2 with hn | ⟨g,cap,cur,rfl,hb,hg,h1,h2,h3,h4⟩
 ·exact .inl hn
 ·obtain⟨c1,k1,k2,k3⟩:=h.new g cur e hg;refine .inr ⟨g,cap,c1,rfl,hb,k1,h1,h2,k2.trans h3,?_⟩;rcases k3 with rfl | ⟨_,k4⟩
  ·exact h4
  ·obtain⟨r,hr⟩:=hm;have hx:=congrArg (List.take (n*s)) k4;rw[List.take_take,Nat.min_eq_left (by rw[←hr,List.length_append,ho.1];omega),←hr,List.take_append_of_le_length (by rw[ho.1];exact Nat.le_refl _)]at hx;exact hx.trans (List.take_of_length_le (by rw[ho.1];exact Nat.le_refl _))
end
theorem wI {P:Program} (w:World) (t ty e:TypeId) (i:TypeInfo) (ht:P.underlying t=some (.slice e)) (hi:P.info? e=some i) (b:Addr) (n c:Nat) (hn:n≤c) (A:Option Addr) (c':Nat) :
  (Builtin.append_ #[t,t] ty #[.slice (some b) n c,.slice A 0 c']).run P w=.ok (.slice (some b) n c) w:=by
 cases A<;>simp[Builtin.append_,run_underlying ht,sizeOf,typeInfo,hi,Builtin.lenOf,Builtin.firstCells,hn,storeCells,loadCells,loadCellsFrom]
section
variable {P:Program} {w:World} {α:Type} {cells:α→List Value} {s bytes:Nat} {T E:TypeId} {i:TypeInfo} {z:Value}
theorem Gt (hs0:0<s) (hu:P.underlying T=some (.slice E)) (hi:P.info? E=some i) (hz:i.zero=some z) (hsz:i.size=s) (hby:i.bytes=bytes) (hzs:z.cells.size=s) (hb9:bytes≤1000)
  (ty:TypeId) (xs:List α) (b gx n c:Nat) (A:Option Addr) (B0:Nat) (jx:aI w gx E #[]) (hg:B0≤gx) (hn:n≤2000) (hx:RA cells s w b A n c xs) :
  ∃g k w',(Builtin.append_ #[T,T] ty #[.slice (some ⟨gx,0,none⟩) 0 0,.slice A n c]).run P w=.ok (.slice (some ⟨g,0,none⟩) n k) w'∧Ext w w'∧B0≤g∧(n=0→k=0)∧w'.ownsRow B0 E s (.slice (some ⟨g,0,none⟩) n k) n (xs.flatMap cells):=by
 have hl:=hx.len;have hlt:=jx.lt;rcases Nat.eq_zero_or_pos n with h0 | h0
 ·subst h0;obtain rfl:xs=[]:=List.eq_nil_of_length_eq_zero hl;exact⟨_,_,_,wI w _ _ _ i hu hi ⟨gx,0,none⟩ 0 0 (Nat.le_refl _) A c,Ext.refl _,hg,fun _=>rfl,by simp,.inr ⟨gx,0,#[],rfl,hg,jx,Nat.le_refl _,by unfold maxLen;omega,by simp,by simp⟩⟩
 ·obtain⟨b',o,rfl,hb,hc⟩:=hx.rd.2 h0;have hbb:n*bytes≤2000*1000:=Nat.mul_le_mul hn hb9;obtain⟨v',w',h1,h2,h3⟩:=run_append_arg_grows (P:=P) (w:=w) T ty E i z s bytes hu hi hz hsz hby hzs hs0 ⟨gx,0,none⟩ 0 0 [] (by simp) (fun j u hu=>by simp at hu) ⟨b',o,none⟩ n c _ hx.rd.1 (fun j u hu=>by rw[Addr.add_lit];exact hc j u hu) (by omega) (by unfold maxLen;omega) (by rw[Nat.zero_add];omega);rw[Nat.zero_add,List.nil_append]at h2;have h4:=own_base h2 (by omega:B0≤w.heap.size);rcases h4.2 with ⟨hv,hz0⟩ | ⟨g,k,cur,rfl,hbg,hr⟩
  ·omega
  ·exact⟨g,k,w',h1,⟨h3.os,h3.tape,h3.output,h3.size,fun k hk=>h3.block k hk (by simp)⟩,hbg,fun e=>by omega,h4⟩
theorem Ru (hs0:0<s) (hu:P.underlying T=some (.slice E)) (hi:P.info? E=some i) (hz:i.zero=some z) (hsz:i.size=s) (hby:i.bytes=bytes) (hzs:z.cells.size=s) (hb9:bytes≤1000)
  (ty:TypeId) {N0 g n k:Nat} {xs news:List Value} (ho:w.ownsRow N0 E s (.slice (some ⟨g,0,none⟩) n k) n xs) (h0:n=0→k=0) (hn:n≤2000) (hN:N0≤w.heap.size)
  (A:Option Addr) (m c:Nat) (hm:m≤2000) (hl:news.length=m*s) (hnews:0<m→∃a:Addr,A=some a∧∀j u,news[j]?=some u→w.cell? (a.add j)=some u) (h1:∀u∈news,u.oneCell'=true) :
  ∃g' k' w',(Builtin.append_ #[T,T] ty #[.slice (some ⟨g,0,none⟩) n k,.slice A m c]).run P w=.ok (.slice (some ⟨g',0,none⟩) (n+m) k') w'∧w'.ownsRow N0 E s (.slice (some ⟨g',0,none⟩) (n+m) k') (n+m) (xs++news)∧TP N0 (xs++news) s w w':=by
 have hgn:N0≤g:=(World.ownsRow.lt ho g rfl).1;have hnk:n≤k:=by
  rcases ho.2 with ⟨hv,_⟩ | ⟨g1,cap,cur,hv,_,_,h,_⟩
  ·cases hv
  ·injection hv with _ _ e;omega
 rcases Nat.eq_zero_or_pos m with hm0 | hm0
 ·subst hm0;have hnil:news=[]:=List.eq_nil_of_length_eq_zero (by simpa using hl);subst hnil;exact⟨g,k,w,wI w _ _ _ i hu hi ⟨g,0,none⟩ n k hnk A c,by simpa using ho,TP.refl _⟩
 ·obtain⟨a,rfl,hc⟩:=hnews hm0;by_cases hroom:n+m≤k
  ·obtain⟨w',h2,h3,h4⟩:=run_append_fits (P:=P) (w:=w) N0 T ty E i s hu hi hsz g n k xs ho a m c news hl hc h1 hroom;refine⟨g,k,w',h2,h3,⟨⟨h4.os,h4.tape,h4.output,h4.size,fun j hj=>h4.block j (by omega) (fun e=>by injection e with e;omega)⟩,fun b cs t hb=>?_⟩⟩;by_cases hbg:b=g
   ·subst hbg;rcases ho.2 with ⟨hv,_⟩ | ⟨g1,cap,cur,hv,_,hg1,_,_,hcs,htk⟩
    ·cases hv
    ·injection hv with e1 _ e3;injection e1 with e1;injection e1 with e1;subst e1 e3;rw[hb]at hg1;injection hg1 with hg1;injection hg1 with q1 q2;subst q1 q2;rcases h3.2 with ⟨hv,_⟩ | ⟨g2,cap2,cur2,hv,_,hg2,_,_,hcs2,htk2⟩
     ·cases hv
     ·injection hv with e1 _ e3;injection e1 with e1;injection e1 with e1;subst e1 e3;refine⟨cur2,hg2,by rw[hcs,hcs2],.inr ⟨?_,?_⟩⟩
      ·have hn1:0<n:=by
        rcases Nat.eq_zero_or_pos n with h | h
        ·have:=h0 h;omega
        ·exact h
       have:=Nat.mul_le_mul_right s (show 2≤k by omega);omega
      ·rw[List.length_append,ho.1,hl,←Nat.add_mul];exact htk2
   ·exact⟨cs,(h4.block b (Array.getElem?_eq_some_iff.1 hb).1 (fun e=>hbg (by injection e))).trans hb,rfl,.inl rfl⟩
  ·have hbb:(n+m)*bytes≤4000*1000:=Nat.mul_le_mul (by omega) hb9;obtain⟨v',w',h2,h3,h4⟩:=run_append_arg_grows (P:=P) (w:=w) T ty E i z s bytes hu hi hz hsz hby hzs hs0 ⟨g,0,none⟩ n k xs ho.1 (fun j u hu=>ho.cells (g:=g) rfl j u hu) a m c news hl hc (by omega) (by unfold maxLen;omega) (by omega);have h5:=own_base h3 hN;rcases h5.2 with ⟨hv,hz0⟩ | ⟨g2,k2,cur,rfl,hbg,hr⟩
   ·omega
   ·exact⟨g2,k2,w',h2,h5,⟨⟨h4.os,h4.tape,h4.output,h4.size,fun j hj=>h4.block j (by omega) (by simp)⟩,fun b cs t hb=>⟨cs,(h4.block b (Array.getElem?_eq_some_iff.1 hb).1 (by simp)).trans hb,rfl,.inl rfl⟩⟩⟩
end
end Go.Proofs.YtjidhhfabfnhnaaGreat
