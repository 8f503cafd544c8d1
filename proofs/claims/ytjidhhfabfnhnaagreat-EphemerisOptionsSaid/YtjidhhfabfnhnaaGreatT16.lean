/- Passes (printed by contact_b5.py). -/
import Derived.Test.YtjidhhfabfnhnaaGreatT11
import Derived.Test.YtjidhhfabfnhnaaGreatT15
import Derived.Test.YtjidhhfabfnhnaaGreatT07
namespace Go.Proofs.YtjidhhfabfnhnaaGreat
open Go.RowKit Go.Shelf
attribute [local go_sem] Oper.semAt_some
def tN (r:Option (List bP)) (w:World) (e:Ending) (w':World):Prop:=match r with
 |none=>e=.returned (.tuple #[.slice none 0 0,.int .i64 90])∧Below w.heap.size w w'
 |some l=>∃v,e=.returned (.tuple #[v,.int .i64 0])∧w'.ownsRow w.heap.size 75 6 v l.length (l.flatMap ak)∧Below w.heap.size w w'
def YS (N:Nat):Prop:=∀(base g n c:Nat) (l:List bP) (w:World),aW ak 6 base 75 g n c w l→n≤N →
 Calls Tryz.prog 49 #[.slice (some ⟨g,0,none⟩) n c,.func (.func 68) #[] #[]] w
  fun e w'=>e=.returned (.tuple #[])∧aW ak 6 base 75 g n c w' (bM (ltOf aU) l)∧w.grownBy w' (some g)
structure PI (w:World) (gp gu:Nat) (a b:Int) (out:List bP) (Ds:List Nat) (W:World):Prop where
 kp:aG W gp 32 #[.int .i64 a,.int .i64 b]
 row:∃v,aG W gu 36 #[v]∧W.ownsRow w.heap.size 75 6 v out.length (out.flatMap ak)∧(out.length=0→v=.slice none 0 0)
 below:Below w.heap.size w W
 marks:dW w.heap.size Ds W
structure TI (wr:World) (g9 gl gt:Nat) (X:Array Value) (sl:Int) (o:iM) (m0:Int) (j:Nat) (W:World):Prop where
 ext:Ext wr W
 kx:aG W g9 53 X
 kl:aG W gl 3 #[.int .i64 sl]
 row:∃v,aG W gt 146 #[v]∧W.ownsRow (gt+1) 69 2 v j ((mW o m0 j).flatMap iI)∧(j=0→v=.slice none 0 0)
theorem AB:(Tryz.prog.info? 69).map (fun i=>(i.zero,i.size,i.bytes))=some (some (.agg #[.int .i64 0,.int .i64 0]),2,16):=by kernel_rfl
structure TT (g9 gl gt gr n c:Nat) (X:Array Value) (sl:Int) (o:iM) (m0:Int) (W:World):Prop where
 kx:aG W g9 53 X
 kl:aG W gl 3 #[.int .i64 sl]
 kt:aG W gt 146 #[.slice (some ⟨gr,0,none⟩) n c]
 kr:aW iI 2 (gt+1) 69 gr n c W (mW o m0 n)
theorem TT.ext {g9 gl gt gr n c:Nat} {X:Array Value} {sl:Int} {o:iM} {m0:Int} {W W':World} (h:TT g9 gl gt gr n c X sl o m0 W) (hx:Ext W W'):TT g9 gl gt gr n c X sl o m0 W':=⟨h.kx.ext hx,h.kl.ext hx,h.kt.ext hx,h.kr.ext hx⟩
theorem PI.ext {w W W':World} {gp gu:Nat} {a b:Int} {out:List bP} {Ds:List Nat} (h:PI w gp gu a b out Ds W) (hx:Ext W W'):PI w gp gu a b out Ds W':=by
 obtain⟨v,k1,k2,k3⟩:=h.row;exact⟨h.kp.ext hx,⟨v,k1.ext hx,bT k2 hx,k3⟩,aA h.below hx,h.marks.ext hx⟩
theorem xI {P:Program} (w:World) (base:Nat) (t ty e:TypeId) (i:TypeInfo) (z:Value) (size bytes:Nat) (ht:P.underlying t=some (.slice e)) (hi:P.info? e=some i) (hz:i.zero=some z)
  (hsize:i.size=size) (hby:i.bytes=bytes) (hzs:z.cells.size=size) (hsz:2≤size)
  (v:Value) (k:Nat) (xs:List Value) (hown:w.ownsRow base e size v k xs) (hnil:k=0→v=.slice none 0 0)
  (ad:Addr) (c:Nat) (news:List Value) (hn:news.length=size) (hc:∀j u,news[j]?=some u→w.cell? (ad.add j)=some u) (h1:∀u∈news,u.oneCell'=true)
  (b1:k+1≤maxLen) (b2:(k+1)*bytes≤140737488355328) (b3:base≤w.heap.size) :
  ∃(v':Value) (w':World),(Builtin.append_ #[t,t] ty #[v,.slice (some ad) 1 c]).run P w=.ok v' w'∧w'.ownsRow base e size v' (k+1) (xs++news)∧w.grownBy w' v.ownBlock ∧
   (∀(g:Nat) (cs:Array Value) (t':TypeId),w.heap[g]?=some (Obj.cells cs t' (0,0))→cs.size=2→w'.heap[g]?=w.heap[g]?)∧∀q,v'.ownBlock=some q→v.ownBlock=some q∨w.heap.size≤q:=by
 obtain⟨v1,w1,e1,e2,e3,e4⟩:=jI (P:=P) w base t ty e i z size bytes ht hi hz hsize hby hzs hsz v k xs hown hnil ad c news hn hc h1 b1 b2 b3;refine⟨v1,w1,e1,e2,e3,e4,?_⟩;have hn1:news.length=1*size:=by omega
 rcases hown.2 with ⟨rfl,rfl⟩ | ⟨g0,cap,cur,rfl,hg0,hh,hcap,hmax,hcur,htk⟩
 ·obtain⟨v',w',h1',h2,h3,_⟩:=run_append_own (P:=P) w w.heap.size t ty e i z size bytes ht hi hz hsize hby hzs (by omega) _ 0 xs ⟨hown.1,.inl ⟨rfl,rfl⟩⟩ ad 1 c news hn1 hc h1 (by omega) (by omega) (Nat.le_refl _);rw[e1]at h1';injection h1' with h1' _;subst h1';exact fun q hq=>.inr (World.ownsRow.lt h2 q hq).1
 ·by_cases hroom:k+1≤cap
  ·obtain⟨w',h1',h2,h3⟩:=run_append_fits (P:=P) w base t ty e i size ht hi hsize g0 k cap xs hown ad 1 c news hn1 hc h1 hroom;rw[e1]at h1';injection h1' with h1' _;subst h1';exact fun q hq=>.inl hq
  ·obtain⟨v',w',h1',h2,h3⟩:=run_append_arg_grows (P:=P) w t ty e i z size bytes ht hi hz hsize hby hzs (by omega) ⟨g0,0,none⟩ k cap xs hown.1 (fun j u hu=>hown.cells (g:=g0) rfl j u hu) ad 1 c news hn1 hc (by omega) b1 b2;rw[e1]at h1';injection h1' with h1' hw;subst h1' hw;exact fun q hq=>.inr (World.ownsRow.lt h2 q hq).1
theorem oL.WR {ex:Nat→Prop} {B0:Nat} {W W':World} {v:Value} (h:∀q,v.ownBlock=some q→ex q∨B0≤q) (hg:W.grownBy W' v.ownBlock)
  (hp:∀(g:Nat) (cs:Array Value) (t':TypeId),W.heap[g]?=some (Obj.cells cs t' (0,0))→cs.size=2→W'.heap[g]?=W.heap[g]?):oL ex B0 W W' :=
 ⟨hg.size,fun j cs t hj hx hz=>by
  rcases hz with hz | hz
  ·exact hg.block j (Array.getElem?_eq_some_iff.1 hj).1 fun e'=>by rcases h j e'.symm with h | h;exact hx h;omega
  ·exact hp j cs t hj hz⟩
theorem OM {W W':World} (h:Ext W W'):KeepsOthers W W':=⟨h.size,fun k _ hk _=>(h.block k (Array.getElem?_eq_some_iff.1 hk).1).trans hk⟩
structure RI (w:World) (gp gu g9 gl gt gr gs n c:Nat) (X S:Array Value) (sl a b:Int) (o:iM) (AP:List bP) (mk:iO→bP) (Ds:List Nat) (B0:Nat) (v0:Value) (pre:List uN) (W:World):Prop where
 kp:aG W gp 32 #[.int .i64 a,.int .i64 b]
 ks:aG W gs 71 S
 row:∃v,aG W gu 36 #[v]∧W.ownsRow w.heap.size 75 6 v (AP++(pre.map (·.1)).map mk).length ((AP++(pre.map (·.1)).map mk).flatMap ak)∧((AP++(pre.map (·.1)).map mk).length=0→v=.slice none 0 0)∧(∀q,v.ownBlock=some q→v0.ownBlock=some q∨B0≤q)
 below:Below w.heap.size w W
 marks:dW w.heap.size Ds W
 mlt:∀D∈Ds,D<B0
 tt:TT g9 gl gt gr n c X sl o (a-sl) W
 size:B0≤W.heap.size
theorem ri_own {w:World} {gp gu g9 gl gt gr gs n c:Nat} {X S:Array Value} {sl a b:Int} {o:iM} {AP:List bP} {mk:iO→bP} {Ds:List Nat} {B0:Nat} {v0:Value} (h:w.heap.size≤B0):OwnFrom B0 (RI w gp gu g9 gl gt gr gs n c X S sl a b o AP mk Ds B0 v0):=by
 rintro pre U V row ⟨k1,k2,⟨v,r1,r2,r3,r4⟩,k4,k5,k6,k7,k8⟩ hgr hr;refine⟨bF k1 hgr hr,bF k2 hgr hr,⟨v,bF r1 hgr hr,iH r2 hgr hr,r3,r4⟩,k4.grown hgr k4.size (fun k e=>Nat.le_trans h (hr k e).1),⟨k5.nodup,fun D hD=>⟨(k5.ok D hD).1,?_⟩⟩,k6,⟨bF k7.kx hgr hr,bF k7.kl hgr hr,bF k7.kt hgr hr,⟨k7.kr.1,iH k7.kr.2 hgr hr⟩⟩,Nat.le_trans k8 hgr.size⟩;exact (hgr.block D (k5.lt D hD) (fun e=>by have:=(hr D e.symm).1;have:=k6 D hD;omega)).trans (k5.ok D hD).2
theorem aW.blk {α:Type} {cells:α→List Value} {s base:Nat} {e:TypeId} {g n c:Nat} {w:World} {l:List α} (h:aW cells s base e g n c w l):∃cur,aG w g e cur:=by
 rcases h.2.2 with ⟨h',_⟩ | ⟨g',cap',cur,h',_,hg,_⟩
 ·simp at h'
 ·simp only[Value.slice.injEq,Option.some.injEq,Addr.mk.injEq,and_true,true_and]at h';obtain⟨rfl,rfl⟩:=h';exact⟨cur,hg⟩
theorem aW.same {α:Type} {cells:α→List Value} {s base:Nat} {e:TypeId} {g n c:Nat} {w w':World} {l:List α} (h:aW cells s base e g n c w l) (hg:w'.heap[g]?=w.heap[g]?):aW cells s base e g n c w' l:=by
 refine⟨h.1,h.2.1,?_⟩;rcases h.2.2 with ⟨h',_⟩ | ⟨g',cap',cur,h',hb,hh,r⟩
 ·simp at h'
 ·simp only[Value.slice.injEq,Option.some.injEq,Addr.mk.injEq,and_true,true_and]at h';obtain⟨rfl,rfl⟩:=h';exact .inr ⟨g,c,cur,rfl,hb,hg.trans hh,r⟩
theorem AU:(Tryz.prog.info? 75).map (fun i=>(i.zero,i.size,i.bytes))=some (some (.agg #[.int .i64 0,.int .i64 0,.int .i64 0,.int .i64 0,.int .i64 0,.int .i64 0]),6,48):=by kernel_rfl
def m_ (sats:List St) (aK:List iD) (a b:Int) (k:Nat):List bP:=(sats.take k).flatMap fun s=>aK.flatMap (eU s ⟨a,b⟩)
def NilJ (w:World) (gu:Nat) (W:World):Prop:=aG W gu 36 #[.slice none 0 0]∧Below w.heap.size w W
theorem SV (w:World) (gu:Nat):OwnFrom w.heap.size (fun (_:Unit) W=>NilJ w gu W):=by
 rintro _ U V row ⟨h1,h2⟩ hgr hr;exact⟨bF h1 hgr hr,h2.grown hgr h2.size (fun k e=>(hr k e).1)⟩
def WS (w:World) (gu:Nat) (v:Value) (l:List bP) (W:World):Prop:=aG W gu 36 #[v]∧W.ownsRow w.heap.size 75 6 v l.length (l.flatMap ak)∧Below w.heap.size w W
theorem Ii (w:World) (gu:Nat) (v:Value) (l:List bP):OwnFrom w.heap.size (fun (_:Unit) W=>WS w gu v l W):=by
 rintro _ U V row ⟨h1,h2,h3⟩ hgr hr;exact⟨bF h1 hgr hr,iH h2 hgr hr,h3.grown hgr h3.size (fun k e=>(hr k e).1)⟩
theorem out_le (sats:List St) (aK:List iD) (a b:Int) (k i:Nat) (s:St) (hk:k<sats.length) (hs:s=sats[k]):(m_ sats aK a b k++(aK.take i).flatMap (eU s ⟨a,b⟩)).length≤(mX sats aK ⟨a,b⟩).length:=by
 have h1:sats.take k++s::sats.drop (k+1)=sats:=by rw[hs];simp
 have h2:mX sats aK ⟨a,b⟩=m_ sats aK a b k++(aK.flatMap (eU s ⟨a,b⟩)++(sats.drop (k+1)).flatMap fun s=>aK.flatMap (eU s ⟨a,b⟩)):=by
  rw[m_,←List.flatMap_cons (f:=fun s=>aK.flatMap (eU s ⟨a,b⟩)),←List.flatMap_append,h1];rfl
 have h3:aK.flatMap (eU s ⟨a,b⟩)=(aK.take i).flatMap (eU s ⟨a,b⟩)++(aK.drop i).flatMap (eU s ⟨a,b⟩):=by rw[←List.flatMap_append,List.take_append_drop]
 rw[h2,h3];simp only[List.length_append];omega
theorem SY (sats:List St) (aK:List iD) (a b:Int) (k:Nat) (s:St) (hk:k<sats.length) (hs:s=sats[k]):m_ sats aK a b k++(aK.take aK.length).flatMap (eU s ⟨a,b⟩)=m_ sats aK a b (k+1):=by
 rw[List.take_length,m_,m_,List.take_succ_eq_append_getElem hk,List.flatMap_append,←hs];simp
theorem S9 (aK:List iD) (a b:Int) (s:St) (i:Nat) (st:iD) (hi:i<aK.length) (hs:st=aK[i]):(aK.take (i+1)).flatMap (eU s ⟨a,b⟩)=(aK.take i).flatMap (eU s ⟨a,b⟩)++eU s ⟨a,b⟩ st:=by
 rw[List.take_succ_eq_append_getElem hi,List.flatMap_append,←hs];simp
def PS (sats:List St) (aK:List iD) (w:World) (gp gu:Nat) (a b:Int) (k:Nat) (s:St) (i:Nat) (Ds:List Nat) (W:World):Prop :=
 (m_ sats aK a b k++(aK.take i).flatMap (eU s ⟨a,b⟩)).length≤64∧PI w gp gu a b (m_ sats aK a b k++(aK.take i).flatMap (eU s ⟨a,b⟩)) Ds W
def PL (sats:List St) (aK:List iD) (w:World) (gp gu:Nat) (a b:Int) (k:Nat) (Ds:List Nat) (W:World):Prop:=(m_ sats aK a b k).length≤64∧PI w gp gu a b (m_ sats aK a b k) Ds W
set_option maxRecDepth 100000 in
set_option maxHeartbeats 8000000 in
theorem OO (N:Nat) (hsort:YS N) (sats:List St) (aK:List iD) (SA TA:Option Addr) (sn sc tn tc:Nat) (a b:Int) (w:World) (hS:RA aC 21 w w.heap.size SA sn sc sats) (hT:RA bJ 6 w w.heap.size TA tn tc aK)
  (hN:(mX sats aK ⟨a,b⟩).length≤64→(mX sats aK ⟨a,b⟩).length≤N) :
  CallsIn Fence.wide 10 Tryz.prog 35 #[.slice SA sn sc,.slice TA tn tc,.agg #[.int .i64 a,.int .i64 b]] w (tN (dB sats aK ⟨a,b⟩) w):=by
 have V1:=JL a b;have V2:=fun w h=>uy sats SA sn sc w h;have V3:=fun w h=>uH aK TA tn tc w h;have hsp:gV ⟨a,b⟩=true→0≤a∧a<b∧b≤1000001∧b-a≤4320:=fun h=>by simpa [gV]using h
 have hsa:=@vN sats;have hst:=@Fa aK;have f1:gV ⟨a,b⟩=false→dB sats aK ⟨a,b⟩=none:=fun h=>by rw[dB,h];rfl
 have f2:eH sats=false→dB sats aK ⟨a,b⟩=none:=fun h=>by rw[dB,h,Bool.and_false,Bool.false_and];rfl
 have f3:gU aK=false→dB sats aK ⟨a,b⟩=none:=fun h=>by rw[dB,h,Bool.and_false];rfl
 have f4:gV ⟨a,b⟩=true→eH sats=true→gU aK=true→dB sats aK ⟨a,b⟩=if (mX sats aK ⟨a,b⟩).length≤64 then some (bM (ltOf aU) (mX sats aK ⟨a,b⟩)) else none:=fun h1 h2 h3=>by rw[dB,h1,h2,h3];rfl
 generalize dB sats aK ⟨a,b⟩=res at f1 f2 f3 f4⊢;generalize gV ⟨a,b⟩=q1 at V1 hsp f1 f4⊢;generalize eH sats=q2 at V2 hsa f2 f4⊢;generalize gU aK=q3 at V3 hst f3 f4⊢;have YT:=Lib.hid f1;have HF2:=Lib.hid f2;have HF3:=Lib.hid f3;have HF4:=Lib.hid f4;clear f1 f2 f3 f4;have Ia:=Lib.hid hsp;have NK:=Lib.hid hsa;have HST:=Lib.hid hst;have H1:=Lib.hid V1;have H2:=Lib.hid V2;have H3:=Lib.hid V3;have HS:=Lib.hid hS;have HT:=Lib.hid hT;have HN:=Lib.hid hN;have HSORT:=Lib.hid hsort;have hsc:=hS.cap;have hsm:=hS.vw;have hsl:=hS.le;have htc:=hT.cap;have htm:=hT.vw;have htl:=hT.le;have HSL:=Lib.hid hS.len;have HTL:=Lib.hid hT.len;clear V1 V2 V3 hsp hsa hst hS hT hN hsort;unfold maxLen at hsm htm;refine callsIn_of_wp_marks Tryz.func35 rfl trivial ?_ rfl;simp only[Tryz.ntmps35,List.size_toArray,List.length_cons,List.length_nil,Nat.reduceAdd,Nat.reduceSub,Array.replicate_succ,Array.replicate_zero,List.push_toArray,List.append_toArray,List.nil_append,List.cons_append]
 gi_wp2_with fail
 generalize hW0:(w.alloc (.cells #[.int .i64 a,.int .i64 b] 32)).alloc (.cells #[.slice none 0 0] 36)=W0;obtain⟨gp,hgp⟩:∃k,k=w.heap.size:=⟨_,rfl⟩;obtain⟨gu,hgu⟩:∃k,k=w.heap.size+1:=⟨_,rfl⟩;have YU:aG W0 gp 32 #[.int .i64 a,.int .i64 b]:=by subst hW0;exact (aG.bC _ _ _ hgp.symm).alloc _
 have Ij:aG W0 gu 36 #[.slice none 0 0]:=by subst hW0;exact aG.bC _ _ _ (by simp[hgu])
 have hB:Below w.heap.size w W0:=by subst hW0;exact (by repeat (first | exact Below.refl _ _ | assumption | refine Below.drew ?_ | refine below_drewN ?_ _ | refine aj ?_ _ | refine Below.setCell ?_ (by first | (simp;done) | omega | (simp;omega)) _ | refine aA ?_ (by assumption)))
 rw[←hgu,←hgp];have HHgp:=Lib.hid hgp;have K_:=Lib.hid hgu;clear hW0 hgp hgu;refine⟨trivial,(callsIn_wide.2 (H1.out _)).mono ?_⟩;rintro e W1 ⟨rfl,hx⟩;have YU:=YU.ext hx;have Ij:=Ij.ext hx;have hB:=aA hB hx;clear hx;cases q1
 ·skip;have u0:W1.cell? ⟨gu,0,none⟩=some (.slice none 0 0):=Ij.cell 0;have u1:W1.frozen? ⟨gu,0,none⟩=false:=Ij.frozen 0
  gi_wp2_with fail
  refine⟨trivial,?_⟩
  gi_wp2_with fail
  refine⟨trivial,?_⟩
  gi_wp2_with fail
  have u2:(W1.setCell ⟨gu,0,none⟩ (.slice none 0 0)).cell? ⟨gu,0,none⟩=some (.slice none 0 0):=(Ij.cZ 0 _).cell 0;have hb2:=hB.setCell (p:=⟨gu,0,none⟩) (by have:=K_.out;show w.heap.size≤gu;omega) (.slice none 0 0);have hr0:res=none:=by first | exact YT.out rfl | exact YT.out trivial
  exact⟨.tuple #[.slice none 0 0,.int .i64 90],by simp[results,Tryz.results35,go_sem,u2],by rw[hr0];exact⟨rfl,hb2⟩⟩
 ·skip
  gi_wp2_with fail
  refine⟨trivial,(callsIn_wide.2 (H2.out _ ((HS.out.below hB).more hB.size))).mono ?_⟩;rintro e W2 ⟨rfl,hx⟩;have YU:=YU.ext hx;have Ij:=Ij.ext hx;have hB:=aA hB hx;clear hx;cases q2
  ·skip;have u0:W2.cell? ⟨gu,0,none⟩=some (.slice none 0 0):=Ij.cell 0;have u1:W2.frozen? ⟨gu,0,none⟩=false:=Ij.frozen 0
   gi_wp2_with fail
   refine⟨trivial,?_⟩
   gi_wp2_with fail
   have u2:(W2.setCell ⟨gu,0,none⟩ (.slice none 0 0)).cell? ⟨gu,0,none⟩=some (.slice none 0 0):=(Ij.cZ 0 _).cell 0;have hb2:=hB.setCell (p:=⟨gu,0,none⟩) (by have:=K_.out;show w.heap.size≤gu;omega) (.slice none 0 0);have hr0:res=none:=by first | exact HF2.out rfl | exact HF2.out trivial
   exact⟨.tuple #[.slice none 0 0,.int .i64 90],by simp[results,Tryz.results35,go_sem,u2],by rw[hr0];exact⟨rfl,hb2⟩⟩
  ·skip
   gi_wp2_with fail
   refine⟨trivial,(callsIn_wide.2 (H3.out _ ((HT.out.below hB).more hB.size))).mono ?_⟩;rintro e W3 ⟨rfl,hx⟩;have YU:=YU.ext hx;have Ij:=Ij.ext hx;have hB:=aA hB hx;clear hx;cases q3
   ·skip;have u0:W3.cell? ⟨gu,0,none⟩=some (.slice none 0 0):=Ij.cell 0;have u1:W3.frozen? ⟨gu,0,none⟩=false:=Ij.frozen 0
    gi_wp2_with fail
    have u2:(W3.setCell ⟨gu,0,none⟩ (.slice none 0 0)).cell? ⟨gu,0,none⟩=some (.slice none 0 0):=(Ij.cZ 0 _).cell 0;have hb2:=hB.setCell (p:=⟨gu,0,none⟩) (by have:=K_.out;show w.heap.size≤gu;omega) (.slice none 0 0);have hr0:res=none:=by first | exact HF3.out rfl | exact HF3.out trivial
    exact⟨.tuple #[.slice none 0 0,.int .i64 90],by simp[results,Tryz.results35,go_sem,u2],by rw[hr0];exact⟨rfl,hb2⟩⟩
   ·skip;have hq:0≤a∧a<b∧b≤1000001∧b-a≤4320:=by first | exact Ia.out rfl | exact Ia.out trivial
    have CV:sats.length≤24∧∀x∈sats,dQ x=true:=by first | exact NK.out rfl | exact NK.out trivial
    have Ov:aK.length≤12∧∀x∈aK,fZ x=true:=by first | exact HST.out rfl | exact HST.out trivial
    clear Ia NK HST H1 H2 H3;have Rj:=Lib.hid CV;have ZP:=Lib.hid Ov;clear CV Ov;have hPI0:PL sats aK w gp gu a b 0 [] W3:=⟨by simp[m_],YU,⟨_,Ij,World.ownsRow_nil _ _ _ _,fun _=>rfl⟩,hB,dW.nil _ _⟩;have HPI0:=Lib.hid hPI0;clear hPI0 YU Ij hB
    gi_wp2_with fail
    refine wpIn_loop (fun a' w'=>∃(ds:List Deferred) (u7 u9 u10 u11 u12 u13 u14 u15 u16 u17 u18 u19 u36 u37 u38 u39 u40 u41 u42 u43 u44 u45 u46 u47 u48 u49 u50 u51 u52 u53 u54 u55 u56 u57 u58 u59 u60 u61 u62 u63 u64 u65 u66 u67 u68 u69 u70 u71 u72 u73 u74 u75 u76 u77 u78 u79 u80 u81 u82 u83 u84 u85 u86 u87 u88 u89 u90 u91 u92 u93 u94 u95 u96 u97 u98 u99 u100 u101 u102 u103 u104 u105 u106 u107 u108 u109 u110 u111 u112 u35:Value),(∃(k:Nat) (Ds:List Nat),k≤sn∧u35=.int .i64 k∧ds=Ds.map mark∧Hid (PL sats aK w gp gu a b k Ds w'))∧a'={ tmps:=#[.slice SA sn sc,.slice TA tn tc,.agg #[.int .i64 a,.int .i64 b],undef,undef,.pointer (some ⟨gp,0,none⟩),.pointer (some ⟨gu,0,none⟩),u7,undef,u9,u10,u11,u12,u13,u14,u15,u16,u17,u18,u19,.agg #[.int .i64 a,.int .i64 b],.bool true,.bool false,.bool false,.slice SA sn sc,.bool true,.bool false,.bool false,.bool false,.slice TA tn tc,.bool true,.bool false,.bool false,.slice SA sn sc,.int .i64 (sn:Int),u35,u36,u37,u38,u39,u40,u41,u42,u43,u44,u45,u46,u47,u48,u49,u50,u51,u52,u53,u54,u55,u56,u57,u58,u59,u60,u61,u62,u63,u64,u65,u66,u67,u68,u69,u70,u71,u72,u73,u74,u75,u76,u77,u78,u79,u80,u81,u82,u83,u84,u85,u86,u87,u88,u89,u90,u91,u92,u93,u94,u95,u96,u97,u98,u99,u100,u101,u102,u103,u104,u105,u106,u107,u108,u109,u110,u111,u112,undef,undef,undef],defers:=ds }) (fun a' _=>sn-(intOf (a'.tmps.getD 35 undef)).toNat) ?_ ?_
    ·exact⟨[],_,_,_,_,_,_,_,_,_,_,_,_,_,_,_,_,_,_,_,_,_,_,_,_,_,_,_,_,_,_,_,_,_,_,_,_,_,_,_,_,_,_,_,_,_,_,_,_,_,_,_,_,_,_,_,_,_,_,_,_,_,_,_,_,_,_,_,_,_,_,_,_,_,_,_,_,_,_,_,_,_,_,_,_,_,_,_,_,_,_,⟨0,[],Nat.zero_le _,rfl,rfl,HPI0⟩,rfl⟩
    ·clear HPI0;intro a_ wr hinv;obtain⟨ds,hinv⟩:=hinv;obtain⟨u7,hinv⟩:=hinv;obtain⟨u9,hinv⟩:=hinv;obtain⟨u10,hinv⟩:=hinv;obtain⟨u11,hinv⟩:=hinv;obtain⟨u12,hinv⟩:=hinv;obtain⟨u13,hinv⟩:=hinv;obtain⟨u14,hinv⟩:=hinv;obtain⟨u15,hinv⟩:=hinv;obtain⟨u16,hinv⟩:=hinv;obtain⟨u17,hinv⟩:=hinv;obtain⟨u18,hinv⟩:=hinv;obtain⟨u19,hinv⟩:=hinv;obtain⟨u36,hinv⟩:=hinv;obtain⟨u37,hinv⟩:=hinv;obtain⟨u38,hinv⟩:=hinv;obtain⟨u39,hinv⟩:=hinv;obtain⟨u40,hinv⟩:=hinv;obtain⟨u41,hinv⟩:=hinv;obtain⟨u42,hinv⟩:=hinv;obtain⟨u43,hinv⟩:=hinv;obtain⟨u44,hinv⟩:=hinv;obtain⟨u45,hinv⟩:=hinv;obtain⟨u46,hinv⟩:=hinv;obtain⟨u47,hinv⟩:=hinv;obtain⟨u48,hinv⟩:=hinv;obtain⟨u49,hinv⟩:=hinv;obtain⟨u50,hinv⟩:=hinv;obtain⟨u51,hinv⟩:=hinv;obtain⟨u52,hinv⟩:=hinv;obtain⟨u53,hinv⟩:=hinv;obtain⟨u54,hinv⟩:=hinv;obtain⟨u55,hinv⟩:=hinv;obtain⟨u56,hinv⟩:=hinv;obtain⟨u57,hinv⟩:=hinv;obtain⟨u58,hinv⟩:=hinv;obtain⟨u59,hinv⟩:=hinv;obtain⟨u60,hinv⟩:=hinv;obtain⟨u61,hinv⟩:=hinv;obtain⟨u62,hinv⟩:=hinv;obtain⟨u63,hinv⟩:=hinv;obtain⟨u64,hinv⟩:=hinv;obtain⟨u65,hinv⟩:=hinv;obtain⟨u66,hinv⟩:=hinv;obtain⟨u67,hinv⟩:=hinv;obtain⟨u68,hinv⟩:=hinv;obtain⟨u69,hinv⟩:=hinv;obtain⟨u70,hinv⟩:=hinv;obtain⟨u71,hinv⟩:=hinv;obtain⟨u72,hinv⟩:=hinv;obtain⟨u73,hinv⟩:=hinv;obtain⟨u74,hinv⟩:=hinv;obtain⟨u75,hinv⟩:=hinv;obtain⟨u76,hinv⟩:=hinv;obtain⟨u77,hinv⟩:=hinv;obtain⟨u78,hinv⟩:=hinv;obtain⟨u79,hinv⟩:=hinv;obtain⟨u80,hinv⟩:=hinv;obtain⟨u81,hinv⟩:=hinv;obtain⟨u82,hinv⟩:=hinv;obtain⟨u83,hinv⟩:=hinv;obtain⟨u84,hinv⟩:=hinv;obtain⟨u85,hinv⟩:=hinv;obtain⟨u86,hinv⟩:=hinv;obtain⟨u87,hinv⟩:=hinv;obtain⟨u88,hinv⟩:=hinv;obtain⟨u89,hinv⟩:=hinv;obtain⟨u90,hinv⟩:=hinv;obtain⟨u91,hinv⟩:=hinv;obtain⟨u92,hinv⟩:=hinv;obtain⟨u93,hinv⟩:=hinv;obtain⟨u94,hinv⟩:=hinv;obtain⟨u95,hinv⟩:=hinv;obtain⟨u96,hinv⟩:=hinv;obtain⟨u97,hinv⟩:=hinv;obtain⟨u98,hinv⟩:=hinv;obtain⟨u99,hinv⟩:=hinv;obtain⟨u100,hinv⟩:=hinv;obtain⟨u101,hinv⟩:=hinv;obtain⟨u102,hinv⟩:=hinv;obtain⟨u103,hinv⟩:=hinv;obtain⟨u104,hinv⟩:=hinv;obtain⟨u105,hinv⟩:=hinv;obtain⟨u106,hinv⟩:=hinv;obtain⟨u107,hinv⟩:=hinv;obtain⟨u108,hinv⟩:=hinv;obtain⟨u109,hinv⟩:=hinv;obtain⟨u110,hinv⟩:=hinv;obtain⟨u111,hinv⟩:=hinv;obtain⟨u112,hinv⟩:=hinv;obtain⟨u35,hinv⟩:=hinv;obtain⟨hrel,ha⟩:=hinv;subst ha;obtain⟨k,Ds,hk,hu,hd,uQ⟩:=hrel;subst hu hd;dsimp only;by_cases hlt:k<sn
     ·skip;obtain⟨b_,o,hz,hA,hbl,hc⟩:=RA.range gJ (HS.out.below uQ.out.2.below) hlt;obtain⟨s,hs⟩:∃s,s=sats[k]:=⟨_,rfl⟩;have hok:dQ s=true:=by rw[hs];exact Rj.out.2 _ (List.getElem_mem _)
      rw[←hs]at hc;obtain⟨hob,hsl0,hsl1⟩:=Fb hok;obtain⟨p,f,lo,hi,no,tu,sl,ho⟩:∃p f lo hi no tu sl,s.aY=⟨p,f,lo,hi,no,tu,sl⟩:=⟨_,_,_,_,_,_,_,rfl⟩;rw[ho]at hob hsl0 hsl1;dsimp only at hsl0 hsl1;have KX:aG (wr.alloc (.cells (aC s).toArray 53)) wr.heap.size 53 (aC s).toArray:=aG.new _ _ _;have h1:=nU s;have hsx:(aC s).toArray.size=21:=rfl;have hX:∃X,(aC s).toArray=X:=⟨_,rfl⟩;have hcell:∀(W:World) (g:Nat),aG W g 53 (aC s).toArray→W.cell? ⟨g,0,none⟩=some (.int .i64 s.id)∧W.cell? ⟨g,2,none⟩=some (.int .i64 p)∧W.cell? ⟨g,3,none⟩=some (.int .i64 f)∧W.cell? ⟨g,4,none⟩=some (.int .i64 lo)∧W.cell? ⟨g,5,none⟩=some (.int .i64 hi)∧W.cell? ⟨g,6,none⟩=some (.int .i64 no)∧W.cell? ⟨g,7,none⟩=some (.int .i64 tu)∧W.cell? ⟨g,8,none⟩=some (.int .i64 sl):=by
       intro W g K;have e:s.aY.period=p∧s.aY.phase=f∧s.aY.low=lo∧s.aY.high=hi∧s.aY.node=no∧s.aY.turn=tu∧s.aY.dP=sl:=by rw[ho];exact⟨rfl,rfl,rfl,rfl,rfl,rfl,rfl⟩
       obtain⟨e0,e1,e2,e3,e4,e5,e6⟩:=e;refine⟨K.cell 0,?_,?_,?_,?_,?_,?_,?_⟩
       ·rw[←e0];exact K.cell 2
       ·rw[←e1];exact K.cell 3
       ·rw[←e2];exact K.cell 4
       ·rw[←e3];exact K.cell 5
       ·rw[←e4];exact K.cell 6
       ·rw[←e5];exact K.cell 7
       ·rw[←e6];exact K.cell 8
      have c8:=(hcell _ _ KX).2.2.2.2.2.2.2;obtain⟨X,hX⟩:=hX;rw[hX]at KX h1 hsx c8 hcell;have HX:=Lib.hid hX;have CP:=Lib.hid h1;have kF:=Lib.hid hsx;have HC:=Lib.hid hc;have NM:=Lib.hid hcell;have HOB:=Lib.hid hob;have HO:=Lib.hid ho;have Qs:=Lib.hid hs;have WM:=Lib.hid KX;have p0:(((wr.alloc (.cells X 53)).alloc (.cells #[.int .i64 sl] 3)).alloc (.cells #[.slice none 0 0] 146)).cell? ⟨gp,0,none⟩=some (.int .i64 a):=(((uQ.out.2.kp.alloc _).alloc _).alloc _).cell 0;subst hA;clear hX h1 hsx hc hcell hob ho hs KX hok
      gi_wp2_with (first | (refine dU rfl _ _ rfl b_ (o+k*21) rfl X (aC s) HX.out _ HC.out Tryz.underlying53 rfl aQ ?_) | (refine fP rfl 53 _ _ rfl _ X rfl rfl (by rw[kF.out];exact aQ) (by rw[kF.out];rfl) CP.out ?_))
      have hWA:∃W4,W4=((wr.alloc (.cells X 53)).alloc (.cells #[.int .i64 sl] 3)).alloc (.cells #[.slice none 0 0] 146):=⟨_,rfl⟩;obtain⟨W4,Jy⟩:=hWA;rw[←Jy]at p0⊢;obtain⟨g9,hg9⟩:∃g,g=wr.heap.size:=⟨_,rfl⟩;obtain⟨gl,hgl⟩:∃g,g=wr.heap.size+1:=⟨_,rfl⟩;obtain⟨gt,hgt⟩:∃g,g=wr.heap.size+1+1:=⟨_,rfl⟩;have hti0:TI wr g9 gl gt X sl ⟨p,f,lo,hi,no,tu,sl⟩ (a-sl) 0 W4:=by
       refine⟨?_,?_,?_,⟨_,?_,World.ownsRow_nil _ _ _ _,fun _=>rfl⟩⟩
       ·rw[Jy];exact aj (aj (aj (Below.refl _ _) _) _) _
       ·rw[Jy,hg9];exact (WM.out.alloc _).alloc _
       ·rw[Jy];exact (aG.bC _ _ _ (by simp[hgl])).alloc _
       ·rw[Jy];exact aG.bC _ _ _ (by simp[hgt])
      rw[←hgt,←hgl,←hg9];have HTI0:=Lib.hid hti0;have HG9:=Lib.hid hg9;have S_:=Lib.hid hgl;have Vq:=Lib.hid hgt;clear hti0 Jy hg9 hgl hgt p0 c8 WM HC;obtain⟨wo,hwo⟩:∃wo:World,wo=wr:=⟨_,rfl⟩;rw[←hwo]at uQ HTI0 HG9 S_ Vq;clear hwo
      gi_loopw [12] (fun mv wi=>∃(j:Nat) (m:Int),m≤b+sl∧a-sl≤m∧mv=.int .i64 m∧Hid (m=a-sl+j)∧Hid (TI wo g9 gl gt X sl ⟨p,f,lo,hi,no,tu,sl⟩ (a-sl) j wi)) (fun mv _=>(b+sl-intOf mv).toNat)
      case atStart=>exact⟨0,a-sl,by omega,by omega,rfl,Lib.hid (by simp),HTI0⟩
      case round =>
       clear HTI0;obtain⟨j,m,hmb,hma,rfl,HM,vW⟩:=hrel;have p1:wr.cell? ⟨gp,1,none⟩=some (.int .i64 b):=(uQ.out.2.kp.ext vW.out.ext).cell 1;have l0:wr.cell? ⟨gl,0,none⟩=some (.int .i64 sl):=vW.out.kl.cell 0;by_cases hml:m<b+sl
       ·obtain⟨c0,c2,c3,c4,c5,c6,c7,c8⟩:=NM.out _ _ vW.out.kx;have hcv:=OG HOB.out (m:=m) (by omega) (by omega);have HCV:=Lib.hid hcv;clear c0 hcv;rcases (show m≤0∨(0<m∧m<1000000)∨1000000≤m by omega)with hm1 | hm1 | hm1
        ·skip
         gi_wp2_with fail
         refine⟨trivial,(callsIn_wide.2 (EG p f lo hi no tu sl _ _ _)).mono ?_⟩;rintro e W5 ⟨he,hx5⟩;have hcv:=HCV.out;rw[show min 1000000 (max 0 m)=0 by omega]at hcv;simp only[Int.zero_sub]at hcv;rw[hcv]at he;subst he;obtain⟨cx,cy,hcc⟩:∃cx cy,cellAt ⟨p,f,lo,hi,no,tu,sl⟩ m=⟨cx,cy⟩:=⟨_,_,rfl⟩;rw[hcc];have qN:=Lib.hid hcc;clear hcv hcc c2 c3 c4 c5 c6 c7 c8 p1 l0;simp only[Yr];obtain⟨v,k1,k2,k3⟩:=vW.out.row;obtain⟨A',c',hv,_,_⟩:=aX k2;subst hv;have hx6:Ext wr ((W5.alloc (.cells #[.int .i64 cx,.int .i64 cy] 69)).alloc (.cells #[.int .i64 cx,.int .i64 cy] 69)):=Ext.trans hx5 (aj (aj (Below.refl _ _) _) _);have KN:aG ((W5.alloc (.cells #[.int .i64 cx,.int .i64 cy] 69)).alloc (.cells #[.int .i64 cx,.int .i64 cy] 69)) (W5.heap.size+1) 69 #[.int .i64 cx,.int .i64 cy]:=aG.bC _ _ _ (by simp);obtain⟨i0,hi0,hz0,hz1,hz2⟩:=info_parts AB;have FD:=hx6.size;have Tc:gt+1≤wr.heap.size:=by have:=vW.out.row.choose_spec.1.lt;omega
         have hjb:j≤5000:=by have:=HM.out;omega
         obtain⟨v2,W7,hr,hrow2,hg2,-⟩:=jI (P:=Tryz.prog) ((W5.alloc (.cells #[.int .i64 cx,.int .i64 cy] 69)).alloc (.cells #[.int .i64 cx,.int .i64 cy] 69)) (gt+1) 146 146 69 i0 _ 2 16 Tryz.underlying146 hi0 hz0 hz1 hz2 rfl (by omega) _ j _ (bT k2 hx6) k3 ⟨W5.heap.size+1,0,none⟩ 1 (iI ⟨cx,cy⟩) rfl
          (by intro i u hu;rw[Addr.add_lit,Nat.zero_add];rw[KN.cell];simpa [iI]using hu) (by simp[iI,Value.oneCell']) (by unfold maxLen;omega) (by omega) (by omega)
         obtain⟨A2,c2,hv,_,_⟩:=aX hrow2;subst hv;have hne:∀q,(Value.slice A' j c').ownBlock=some q→gt+1≤q:=fun q hq=>(World.ownsRow.lt k2 q hq).1;have k4:=(k1.ext hx6).grown hg2 (fun e=>by have:=hne gt e.symm;omega);have k5:=(vW.out.kx.ext hx6).grown hg2 (fun e=>by have:=hne g9 e.symm;have h1:=HG9.out;have h2:=Vq.out;omega);have k6:=(vW.out.kl.ext hx6).grown hg2 (fun e=>by have:=hne gl e.symm;have h1:=S_.out;have h2:=Vq.out;omega);have hti:TI wo g9 gl gt X sl ⟨p,f,lo,hi,no,tu,sl⟩ (a-sl) (j+1) (W7.setCell ⟨gt,0,none⟩ (.slice A2 (j+1) c2)):=by
          have h1:=HG9.out;have h2:=S_.out;have h3:=Vq.out;refine⟨?_,k5.far (by show g9≠gt;omega) _,k6.far (by show gl≠gt;omega) _,⟨_,k4.cZ 0 _,?_,fun h=>by omega⟩⟩
          ·have hb7:Below wo.heap.size wo W7:=(vW.out.ext.trans hx6).grown hg2 (Ext.trans vW.out.ext hx6).size (fun q e=>by have:=hne q e;omega);exact hb7.setCell (p:=⟨gt,0,none⟩) (by show wo.heap.size≤gt;omega) _
          ·have hq:=jH hrow2 (p:=⟨gt,0,none⟩) (fun e=>by have:=(World.ownsRow.lt hrow2 gt e).1;omega) (.slice A2 (j+1) c2);rw[rV,List.flatMap_append,show cellAt ⟨p,f,lo,hi,no,tu,sl⟩ (a-sl+j)=⟨cx,cy⟩ by rw[←HM.out];exact qN.out];simpa using hq
         have t0:(W5.alloc (.cells #[.int .i64 cx,.int .i64 cy] 69)).cell? ⟨gt,0,none⟩=some (.slice A' j c'):=((k1.ext hx5).alloc _).cell 0;have t1:W7.frozen? ⟨gt,0,none⟩=false:=k4.frozen 0;have t2:W7.cell? ⟨gt,0,none⟩=some (.slice A' j c'):=k4.cell 0;have HR:=Lib.hid hr;have HTN:=Lib.hid hti;have WT:=Lib.hid (show m+1=a-sl+((j+1:Nat):Int) by have:=HM.out;omega);clear hr hti k1 k2 k3 k4 k5 k6 hx5 hx6 KN hrow2 hg2 hne FD Tc vW HM
         gi_wp2_with (gi_at_builtin;refine f_ rfl _ _ _ rfl rfl rfl HR.out ?_)
         go_roundw
         case rel=>exact⟨j+1,m+1,by omega,by omega,rfl,WT,HTN⟩
         case measure=>simp[intOf];omega
        ·skip
         gi_wp2_with fail
         refine⟨trivial,(callsIn_wide.2 (EG p f lo hi no tu sl _ _ _)).mono ?_⟩;rintro e W5 ⟨he,hx5⟩;have hcv:=HCV.out;rw[show min 1000000 (max 0 m)=m by omega]at hcv;simp only[Int.sub_self]at hcv;rw[hcv]at he;subst he;obtain⟨cx,cy,hcc⟩:∃cx cy,cellAt ⟨p,f,lo,hi,no,tu,sl⟩ m=⟨cx,cy⟩:=⟨_,_,rfl⟩;rw[hcc];have qN:=Lib.hid hcc;clear hcv hcc c2 c3 c4 c5 c6 c7 c8 p1 l0;simp only[Yr];obtain⟨v,k1,k2,k3⟩:=vW.out.row;obtain⟨A',c',hv,_,_⟩:=aX k2;subst hv;have hx6:Ext wr ((W5.alloc (.cells #[.int .i64 cx,.int .i64 cy] 69)).alloc (.cells #[.int .i64 cx,.int .i64 cy] 69)):=Ext.trans hx5 (aj (aj (Below.refl _ _) _) _);have KN:aG ((W5.alloc (.cells #[.int .i64 cx,.int .i64 cy] 69)).alloc (.cells #[.int .i64 cx,.int .i64 cy] 69)) (W5.heap.size+1) 69 #[.int .i64 cx,.int .i64 cy]:=aG.bC _ _ _ (by simp);obtain⟨i0,hi0,hz0,hz1,hz2⟩:=info_parts AB;have FD:=hx6.size;have Tc:gt+1≤wr.heap.size:=by have:=vW.out.row.choose_spec.1.lt;omega
         have hjb:j≤5000:=by have:=HM.out;omega
         obtain⟨v2,W7,hr,hrow2,hg2,-⟩:=jI (P:=Tryz.prog) ((W5.alloc (.cells #[.int .i64 cx,.int .i64 cy] 69)).alloc (.cells #[.int .i64 cx,.int .i64 cy] 69)) (gt+1) 146 146 69 i0 _ 2 16 Tryz.underlying146 hi0 hz0 hz1 hz2 rfl (by omega) _ j _ (bT k2 hx6) k3 ⟨W5.heap.size+1,0,none⟩ 1 (iI ⟨cx,cy⟩) rfl
          (by intro i u hu;rw[Addr.add_lit,Nat.zero_add];rw[KN.cell];simpa [iI]using hu) (by simp[iI,Value.oneCell']) (by unfold maxLen;omega) (by omega) (by omega)
         obtain⟨A2,c2,hv,_,_⟩:=aX hrow2;subst hv;have hne:∀q,(Value.slice A' j c').ownBlock=some q→gt+1≤q:=fun q hq=>(World.ownsRow.lt k2 q hq).1;have k4:=(k1.ext hx6).grown hg2 (fun e=>by have:=hne gt e.symm;omega);have k5:=(vW.out.kx.ext hx6).grown hg2 (fun e=>by have:=hne g9 e.symm;have h1:=HG9.out;have h2:=Vq.out;omega);have k6:=(vW.out.kl.ext hx6).grown hg2 (fun e=>by have:=hne gl e.symm;have h1:=S_.out;have h2:=Vq.out;omega);have hti:TI wo g9 gl gt X sl ⟨p,f,lo,hi,no,tu,sl⟩ (a-sl) (j+1) (W7.setCell ⟨gt,0,none⟩ (.slice A2 (j+1) c2)):=by
          have h1:=HG9.out;have h2:=S_.out;have h3:=Vq.out;refine⟨?_,k5.far (by show g9≠gt;omega) _,k6.far (by show gl≠gt;omega) _,⟨_,k4.cZ 0 _,?_,fun h=>by omega⟩⟩
          ·have hb7:Below wo.heap.size wo W7:=(vW.out.ext.trans hx6).grown hg2 (Ext.trans vW.out.ext hx6).size (fun q e=>by have:=hne q e;omega);exact hb7.setCell (p:=⟨gt,0,none⟩) (by show wo.heap.size≤gt;omega) _
          ·have hq:=jH hrow2 (p:=⟨gt,0,none⟩) (fun e=>by have:=(World.ownsRow.lt hrow2 gt e).1;omega) (.slice A2 (j+1) c2);rw[rV,List.flatMap_append,show cellAt ⟨p,f,lo,hi,no,tu,sl⟩ (a-sl+j)=⟨cx,cy⟩ by rw[←HM.out];exact qN.out];simpa using hq
         have t0:(W5.alloc (.cells #[.int .i64 cx,.int .i64 cy] 69)).cell? ⟨gt,0,none⟩=some (.slice A' j c'):=((k1.ext hx5).alloc _).cell 0;have t1:W7.frozen? ⟨gt,0,none⟩=false:=k4.frozen 0;have t2:W7.cell? ⟨gt,0,none⟩=some (.slice A' j c'):=k4.cell 0;have HR:=Lib.hid hr;have HTN:=Lib.hid hti;have WT:=Lib.hid (show m+1=a-sl+((j+1:Nat):Int) by have:=HM.out;omega);clear hr hti k1 k2 k3 k4 k5 k6 hx5 hx6 KN hrow2 hg2 hne FD Tc vW HM
         gi_wp2_with (gi_at_builtin;refine f_ rfl _ _ _ rfl rfl rfl HR.out ?_)
         go_roundw
         case rel=>exact⟨j+1,m+1,by omega,by omega,rfl,WT,HTN⟩
         case measure=>simp[intOf];omega
        ·skip
         gi_wp2_with fail
         refine⟨trivial,(callsIn_wide.2 (EG p f lo hi no tu sl _ _ _)).mono ?_⟩;rintro e W5 ⟨he,hx5⟩;have hcv:=HCV.out;rw[show min 1000000 (max 0 m)=1000000 by omega]at hcv;rw[hcv]at he;subst he;obtain⟨cx,cy,hcc⟩:∃cx cy,cellAt ⟨p,f,lo,hi,no,tu,sl⟩ m=⟨cx,cy⟩:=⟨_,_,rfl⟩;rw[hcc];have qN:=Lib.hid hcc;clear hcv hcc c2 c3 c4 c5 c6 c7 c8 p1 l0;simp only[Yr];obtain⟨v,k1,k2,k3⟩:=vW.out.row;obtain⟨A',c',hv,_,_⟩:=aX k2;subst hv;have hx6:Ext wr ((W5.alloc (.cells #[.int .i64 cx,.int .i64 cy] 69)).alloc (.cells #[.int .i64 cx,.int .i64 cy] 69)):=Ext.trans hx5 (aj (aj (Below.refl _ _) _) _);have KN:aG ((W5.alloc (.cells #[.int .i64 cx,.int .i64 cy] 69)).alloc (.cells #[.int .i64 cx,.int .i64 cy] 69)) (W5.heap.size+1) 69 #[.int .i64 cx,.int .i64 cy]:=aG.bC _ _ _ (by simp);obtain⟨i0,hi0,hz0,hz1,hz2⟩:=info_parts AB;have FD:=hx6.size;have Tc:gt+1≤wr.heap.size:=by have:=vW.out.row.choose_spec.1.lt;omega
         have hjb:j≤5000:=by have:=HM.out;omega
         obtain⟨v2,W7,hr,hrow2,hg2,-⟩:=jI (P:=Tryz.prog) ((W5.alloc (.cells #[.int .i64 cx,.int .i64 cy] 69)).alloc (.cells #[.int .i64 cx,.int .i64 cy] 69)) (gt+1) 146 146 69 i0 _ 2 16 Tryz.underlying146 hi0 hz0 hz1 hz2 rfl (by omega) _ j _ (bT k2 hx6) k3 ⟨W5.heap.size+1,0,none⟩ 1 (iI ⟨cx,cy⟩) rfl
          (by intro i u hu;rw[Addr.add_lit,Nat.zero_add];rw[KN.cell];simpa [iI]using hu) (by simp[iI,Value.oneCell']) (by unfold maxLen;omega) (by omega) (by omega)
         obtain⟨A2,c2,hv,_,_⟩:=aX hrow2;subst hv;have hne:∀q,(Value.slice A' j c').ownBlock=some q→gt+1≤q:=fun q hq=>(World.ownsRow.lt k2 q hq).1;have k4:=(k1.ext hx6).grown hg2 (fun e=>by have:=hne gt e.symm;omega);have k5:=(vW.out.kx.ext hx6).grown hg2 (fun e=>by have:=hne g9 e.symm;have h1:=HG9.out;have h2:=Vq.out;omega);have k6:=(vW.out.kl.ext hx6).grown hg2 (fun e=>by have:=hne gl e.symm;have h1:=S_.out;have h2:=Vq.out;omega);have hti:TI wo g9 gl gt X sl ⟨p,f,lo,hi,no,tu,sl⟩ (a-sl) (j+1) (W7.setCell ⟨gt,0,none⟩ (.slice A2 (j+1) c2)):=by
          have h1:=HG9.out;have h2:=S_.out;have h3:=Vq.out;refine⟨?_,k5.far (by show g9≠gt;omega) _,k6.far (by show gl≠gt;omega) _,⟨_,k4.cZ 0 _,?_,fun h=>by omega⟩⟩
          ·have hb7:Below wo.heap.size wo W7:=(vW.out.ext.trans hx6).grown hg2 (Ext.trans vW.out.ext hx6).size (fun q e=>by have:=hne q e;omega);exact hb7.setCell (p:=⟨gt,0,none⟩) (by show wo.heap.size≤gt;omega) _
          ·have hq:=jH hrow2 (p:=⟨gt,0,none⟩) (fun e=>by have:=(World.ownsRow.lt hrow2 gt e).1;omega) (.slice A2 (j+1) c2);rw[rV,List.flatMap_append,show cellAt ⟨p,f,lo,hi,no,tu,sl⟩ (a-sl+j)=⟨cx,cy⟩ by rw[←HM.out];exact qN.out];simpa using hq
         have t0:(W5.alloc (.cells #[.int .i64 cx,.int .i64 cy] 69)).cell? ⟨gt,0,none⟩=some (.slice A' j c'):=((k1.ext hx5).alloc _).cell 0;have t1:W7.frozen? ⟨gt,0,none⟩=false:=k4.frozen 0;have t2:W7.cell? ⟨gt,0,none⟩=some (.slice A' j c'):=k4.cell 0;have HR:=Lib.hid hr;have HTN:=Lib.hid hti;have WT:=Lib.hid (show m+1=a-sl+((j+1:Nat):Int) by have:=HM.out;omega);clear hr hti k1 k2 k3 k4 k5 k6 hx5 hx6 KN hrow2 hg2 hne FD Tc vW HM
         gi_wp2_with (gi_at_builtin;refine f_ rfl _ _ _ rfl rfl rfl HR.out ?_)
         go_roundw
         case rel=>exact⟨j+1,m+1,by omega,by omega,rfl,WT,HTN⟩
         case measure=>simp[intOf];omega
       ·have hmm:m=b+sl:=by omega
        have hj1:0<j:=by have:=HM.out;omega
        obtain⟨v,k1,k2,k3⟩:=vW.out.row;obtain⟨gr,cr,hv,hgr1,hgr2⟩:=World.ownsRow.form k2 hj1;subst hv;have htt:TT g9 gl gt gr j cr X sl ⟨p,f,lo,hi,no,tu,sl⟩ (a-sl) wr:=⟨vW.out.kx,vW.out.kl,k1,⟨by simp[mW],k2⟩⟩;have hps:PS sats aK w gp gu a b k s 0 Ds wr:=by
         have h:=uQ.out;refine⟨by simpa [PS]using h.1,?_⟩;have h2:=h.2.ext vW.out.ext;simpa using h2
        have HTT:=Lib.hid htt;have ug:=Lib.hid hps;have HJ:=Lib.hid (show (j:Int)=b-a+2*sl by have:=HM.out;omega);have HGR:=Lib.hid (show gt<gr by omega);clear k1 k2 k3 hgr1 hgr2 htt hps vW HM uQ
        gi_wp2_with fail
        clear p1 l0;have hlen0:=ug.out.1;refine wpIn_loop (fun a' w'=>∃(ds:List Deferred) (u7 u17 u18 u19 u76 u77 u78 u79 u80 u81 u82 u83 u84 u85 u86 u87 u88 u89 u90 u91 u92 u93 u94 u95 u96 u97 u98 u99 u100 u101 u102 u103 u104 u105 u106 u107 u108 u109 u110 u111 u75:Value),(∃(i:Nat) (Ds:List Nat),i≤tn∧u75=.int .i64 i∧ds=Ds.map mark∧Hid (PS sats aK w gp gu a b k s i Ds w')∧Hid (TT g9 gl gt gr j cr X sl ⟨p,f,lo,hi,no,tu,sl⟩ (a-sl) w'))∧a'={ tmps:=#[.slice (some ⟨b_,o,none⟩) sn sc,.slice TA tn tc,.agg #[.int .i64 a,.int .i64 b],undef,undef,.pointer (some ⟨gp,0,none⟩),.pointer (some ⟨gu,0,none⟩),u7,undef,.pointer (some ⟨g9,0,none⟩),.pointer (some ⟨gl,0,none⟩),.pointer (some ⟨gt,0,none⟩),.int .i64 (b+sl),u13,u14,u15,u16,u17,u18,u19,.agg #[.int .i64 a,.int .i64 b],.bool true,.bool false,.bool false,.slice (some ⟨b_,o,none⟩) sn sc,.bool true,.bool false,.bool false,.bool false,.slice TA tn tc,.bool true,.bool false,.bool false,.slice (some ⟨b_,o,none⟩) sn sc,.int .i64 (sn:Int),.int .i64 (k:Int),.bool true,.pointer (some ⟨b_,o+k*21,none⟩),.agg X,.pointer (some ⟨g9,2,none⟩),.pointer (some ⟨g9,8,none⟩),.int .i64 sl,.pointer (some ⟨gp,0,none⟩),.int .i64 a,.int .i64 sl,.int .i64 (a-sl),.int .i64 (b+sl),.pointer (some ⟨gp,1,none⟩),.int .i64 b,.int .i64 sl,.int .i64 (b+sl),.bool false,u52,u53,u54,u55,u56,u57,u58,u59,u60,u61,u62,u63,u64,u65,u66,u67,u68,u69,u70,u71,u72,.slice TA tn tc,.int .i64 (tn:Int),u75,u76,u77,u78,u79,u80,u81,u82,u83,u84,u85,u86,u87,u88,u89,u90,u91,u92,u93,u94,u95,u96,u97,u98,u99,u100,u101,u102,u103,u104,u105,u106,u107,u108,u109,u110,u111,u112,undef,undef,undef],defers:=ds }) (fun a' _=>tn-(intOf (a'.tmps.getD 75 undef)).toNat) ?_ ?_
        ·exact⟨_,_,_,_,_,_,_,_,_,_,_,_,_,_,_,_,_,_,_,_,_,_,_,_,_,_,_,_,_,_,_,_,_,_,_,_,_,_,_,_,_,_,⟨0,Ds,Nat.zero_le _,rfl,rfl,ug,HTT⟩,rfl⟩
        ·clear ug HTT hlen0;intro a_ wr hinv;obtain⟨ds,hinv⟩:=hinv;obtain⟨u7,hinv⟩:=hinv;obtain⟨u17,hinv⟩:=hinv;obtain⟨u18,hinv⟩:=hinv;obtain⟨u19,hinv⟩:=hinv;obtain⟨u76,hinv⟩:=hinv;obtain⟨u77,hinv⟩:=hinv;obtain⟨u78,hinv⟩:=hinv;obtain⟨u79,hinv⟩:=hinv;obtain⟨u80,hinv⟩:=hinv;obtain⟨u81,hinv⟩:=hinv;obtain⟨u82,hinv⟩:=hinv;obtain⟨u83,hinv⟩:=hinv;obtain⟨u84,hinv⟩:=hinv;obtain⟨u85,hinv⟩:=hinv;obtain⟨u86,hinv⟩:=hinv;obtain⟨u87,hinv⟩:=hinv;obtain⟨u88,hinv⟩:=hinv;obtain⟨u89,hinv⟩:=hinv;obtain⟨u90,hinv⟩:=hinv;obtain⟨u91,hinv⟩:=hinv;obtain⟨u92,hinv⟩:=hinv;obtain⟨u93,hinv⟩:=hinv;obtain⟨u94,hinv⟩:=hinv;obtain⟨u95,hinv⟩:=hinv;obtain⟨u96,hinv⟩:=hinv;obtain⟨u97,hinv⟩:=hinv;obtain⟨u98,hinv⟩:=hinv;obtain⟨u99,hinv⟩:=hinv;obtain⟨u100,hinv⟩:=hinv;obtain⟨u101,hinv⟩:=hinv;obtain⟨u102,hinv⟩:=hinv;obtain⟨u103,hinv⟩:=hinv;obtain⟨u104,hinv⟩:=hinv;obtain⟨u105,hinv⟩:=hinv;obtain⟨u106,hinv⟩:=hinv;obtain⟨u107,hinv⟩:=hinv;obtain⟨u108,hinv⟩:=hinv;obtain⟨u109,hinv⟩:=hinv;obtain⟨u110,hinv⟩:=hinv;obtain⟨u111,hinv⟩:=hinv;obtain⟨u75,hinv⟩:=hinv;obtain⟨hrel,ha⟩:=hinv;subst ha;obtain⟨i,Ds,hi_,hu,hd,ug,HTT⟩:=hrel;subst hu hd;dsimp only;by_cases hit:i<tn
         ·skip;obtain⟨b2,o2,hz2,hA2,hbl2,hc2⟩:=RA.range tq (HT.out.below ug.out.2.below) hit;obtain⟨st,hst⟩:∃st,st=aK[i]:=⟨_,rfl⟩;have hstok:fZ st=true:=by rw[hst];exact ZP.out.2 _ (List.getElem_mem _)
          rw[←hst]at hc2;have HST:=Lib.hid hst;obtain⟨id,⟨x,y⟩,re,an,sk⟩:=st;have v0:wr.cell? ⟨b2,o2+i*6,none⟩=some (.int .i64 id):=hc2 0 _ rfl;have v1:wr.cell? ⟨b2,o2+i*6+1,none⟩=some (.int .i64 x):=hc2 1 _ rfl;have v2:wr.cell? ⟨b2,o2+i*6+2,none⟩=some (.int .i64 y):=hc2 2 _ rfl;have v3:wr.cell? ⟨b2,o2+i*6+3,none⟩=some (.int .i64 re):=hc2 3 _ rfl;have v4:wr.cell? ⟨b2,o2+i*6+4,none⟩=some (.int .i64 an):=hc2 4 _ rfl;have v5:wr.cell? ⟨b2,o2+i*6+5,none⟩=some (.int .i64 sk):=hc2 5 _ rfl;have p0:(wr.alloc (.cells #[.int .i64 id,.int .i64 x,.int .i64 y,.int .i64 re,.int .i64 an,.int .i64 sk] 71)).cell? ⟨gp,0,none⟩=some (.int .i64 a):=(ug.out.2.kp.alloc _).cell 0;have p1:(wr.alloc (.cells #[.int .i64 id,.int .i64 x,.int .i64 y,.int .i64 re,.int .i64 an,.int .i64 sk] 71)).cell? ⟨gp,1,none⟩=some (.int .i64 b):=(ug.out.2.kp.alloc _).cell 1;have l0:(wr.alloc (.cells #[.int .i64 id,.int .i64 x,.int .i64 y,.int .i64 re,.int .i64 an,.int .i64 sk] 71)).cell? ⟨gl,0,none⟩=some (.int .i64 sl):=(HTT.out.kl.alloc _).cell 0;clear hst hstok hc2;subst hA2
          gi_wp2_with fail
          obtain⟨W4,Jy⟩:∃W4,W4=wr.alloc (.cells #[.int .i64 id,.int .i64 x,.int .i64 y,.int .i64 re,.int .i64 an,.int .i64 sk] 71):=⟨_,rfl⟩;have KS:aG W4 wr.heap.size 71 #[.int .i64 id,.int .i64 x,.int .i64 y,.int .i64 re,.int .i64 an,.int .i64 sk]:=by rw[Jy];exact aG.new _ _ _
          have hx4:Ext wr W4:=by rw[Jy];exact aj (Below.refl _ _) _
          obtain⟨gs,hgs⟩:∃g,g=wr.heap.size:=⟨_,rfl⟩;rw[←Jy,←hgs];rw[←hgs]at KS;have WU:=Lib.hid hgs;clear Jy hgs v0 v1 v2 v3 v4 v5 p0 p1 l0;refine⟨trivial,(callsIn_wide.2 (JM (a-sl) (b+sl) 89 _ _)).mono ?_⟩;rintro e W5 ⟨rfl,Vr⟩;have hx5:Ext W4 W5:=by subst Vr;exact aj (aj (aj (Below.refl _ _) _) _) _
          have kf:aG W5 W4.heap.size 3 #[.int .i64 (a-sl)]:=by subst Vr;exact ((aG.new _ _ _).alloc _).alloc _
          have kt:aG W5 (W4.heap.size+1) 3 #[.int .i64 (b+sl)]:=by subst Vr;exact (aG.bC _ _ _ (by simp)).alloc _
          have ki:aG W5 (W4.heap.size+1+1) 147 #[.func (.func 89) #[] #[.pointer (some ⟨gt,0,none⟩),.pointer (some ⟨gp,0,none⟩),.pointer (some ⟨gl,0,none⟩),.pointer (some ⟨gs,0,none⟩)]]:=by subst Vr;exact aG.bC _ _ _ (by simp)
          have hx:=hx4.trans hx5;have KS:=KS.ext hx5;have hpi:=ug.out.2.ext hx;have htt:=HTT.out.ext hx;clear Vr hx4 hx5
          gi_wp2_with fail
          obtain⟨v0,r1,r2,r3⟩:=ug.out.2.row;have hv0:∀q,v0.ownBlock=some q→q<wr.heap.size:=fun q hq=>(World.ownsRow.lt r2 q hq).2;obtain⟨crx,hkr⟩:=htt.kr.blk;have r1':=r1.ext hx;have r2':=bT r2 hx;have n1:¬(gt=gu∨v0.ownBlock=some gt):=by rintro (h | h);exact aG.Cc htt.kt r1' (by decide) h;exact bQ r2' htt.kt (by decide) h
          have n2:¬(gr=gu∨v0.ownBlock=some gr):=by rintro (h | h);exact aG.Cc hkr r1' (by decide) h;exact bQ r2' hkr (by decide) h
          have n3:¬(gp=gu∨v0.ownBlock=some gp):=by rintro (h | h);exact aG.Cc hpi.kp r1' (by decide) h;exact bQ r2' hpi.kp (by decide) h
          have n4:¬(gl=gu∨v0.ownBlock=some gl):=by rintro (h | h);exact aG.Cc htt.kl r1' (by decide) h;exact bQ r2' htt.kl (by decide) h
          have n5:¬(gs=gu∨v0.ownBlock=some gs):=by rintro (h | h);exact aG.Cc KS r1' (by decide) h;exact bQ r2' KS (by decide) h
          have n6:¬(W4.heap.size=gu∨v0.ownBlock=some W4.heap.size):=by rintro (h | h);exact aG.Cc kf r1' (by decide) h;exact bQ r2' kf (by decide) h
          have n7:¬(W4.heap.size+1=gu∨v0.ownBlock=some (W4.heap.size+1)):=by rintro (h | h);exact aG.Cc kt r1' (by decide) h;exact bQ r2' kt (by decide) h
          have n8:¬(W4.heap.size+1+1=gu∨v0.ownBlock=some (W4.heap.size+1+1)):=by rintro (h | h);exact aG.Cc ki r1' (by decide) h;exact bQ r2' ki (by decide) h
          have hjj:j≤5000:=by have:=HJ.out;omega
          have hsz5:=hx.size;have N1:=Lib.hid n1;have N2:=Lib.hid n2;have N3:=Lib.hid n3;have N4:=Lib.hid n4;have N5:=Lib.hid n5;have HV0:=Lib.hid hv0;have hri:RI w gp gu g9 gl gt gr gs j cr X #[.int .i64 id,.int .i64 x,.int .i64 y,.int .i64 re,.int .i64 an,.int .i64 sk] sl a b ⟨p,f,lo,hi,no,tu,sl⟩ (m_ sats aK a b k++(aK.take i).flatMap (eU s ⟨a,b⟩)) (h_ s ⟨id,⟨x,y⟩,re,an,sk⟩ ⟨a,b⟩) Ds W5.heap.size v0 [] W5 :=
           ⟨hpi.kp,KS,⟨v0,r1',by simpa using r2',by simpa using r3,fun q hq=>.inl hq⟩,hpi.below,hpi.marks,fun D hD=>hpi.marks.lt D hD,htt,Nat.le_refl _⟩
          have hB5_:w.heap.size≤W5.heap.size:=hpi.below.size;have hbe:(b+sl-(a-sl)).toNat=j:=by have:=HJ.out;omega
          refine yP (fun q=>q=gu∨v0.ownBlock=some q) 89 #[.pointer (some ⟨gt,0,none⟩),.pointer (some ⟨gp,0,none⟩),.pointer (some ⟨gl,0,none⟩),.pointer (some ⟨gs,0,none⟩)] (kS ⟨p,f,lo,hi,no,tu,sl⟩ ⟨id,⟨x,y⟩,re,an,sk⟩) (a-sl) (b+sl) _ _ _ 10 (by omega)
           (fun q h=>by rcases h with h | h;rw[h];exact r1'.lt;have:=hv0 q h;omega) (enters_of Tryz.func89 (by kernel_rfl) rfl)
           kf kt ki n6 n7 n8 (by omega) (by omega) (by omega) ?hp rfl (q:=19) (RI w gp gu g9 gl gt gr gs j cr X #[.int .i64 id,.int .i64 x,.int .i64 y,.int .i64 re,.int .i64 an,.int .i64 sk] sl a b ⟨p,f,lo,hi,no,tu,sl⟩ (m_ sats aK a b k++(aK.take i).flatMap (eU s ⟨a,b⟩)) (h_ s ⟨id,⟨x,y⟩,re,an,sk⟩ ⟨a,b⟩) Ds W5.heap.size v0) (ri_own hpi.below.size) (fun pre W h=>h.size) hri ?hassign ?hbody ?hdone
          case hp =>
           intro t W ht1 ht2 hk;exact OE ⟨p,f,lo,hi,no,tu,sl⟩ id x y re an sk a b sl t gt gr gp gl gs j cr (gt+1) W ⟨hsl0,hsl1⟩ ⟨ht1,by have:=HJ.out;omega⟩ (by omega) (hk.kE htt.kt n1 (.inl htt.kt.lt)) (htt.kr.same (hk.blk _ _ _ hkr n2 (.inl hkr.lt))) (hk.kE hpi.kp n3 (.inl hpi.kp.lt)) (hk.kE htt.kl n4 (.inl htt.kl.lt)) (hk.kE KS n5 (.inl KS.lt))
          case hassign =>
           intro l x W K hK;simp only[List.setIfInBounds_toArray,List.set_cons_zero,List.set_cons_succ]at hK ⊢
           gi_wp2
           exact hK
          case hbody =>
           clear hri hpi htt r1 r1' r2 r2' r3 kf kt ki n1 n2 n3 n4 n5 n6 n7 n8 hv0 KS hkr hx;intro l pre xs Bx W hI hBx KB hlen;obtain⟨⟨xf,xt⟩,hbd⟩:=xs;simp only[List.setIfInBounds_toArray,List.set_cons_zero,List.set_cons_succ];obtain⟨hkp,hks,⟨v,r1,r2,r3,r4⟩,hbl,hmk,hml,htt,hsz⟩:=hI;obtain⟨A0,c0,hv,_,_⟩:=aX r2;subst hv;obtain⟨r_,hop⟩:∃o,o=(m_ sats aK a b k++(aK.take i).flatMap (eU s ⟨a,b⟩))++(pre.map (·.1)).map (h_ s ⟨id,⟨x,y⟩,re,an,sk⟩ ⟨a,b⟩):=⟨_,rfl⟩;have hn0b:r_.length≤6000:=by
            have h1:=ug.out.1;have h2:=JI (kS ⟨p,f,lo,hi,no,tu,sl⟩ ⟨id,⟨x,y⟩,re,an,sk⟩) (b+sl-(a-sl)).toNat (a-sl);have h3:r_.length=(m_ sats aK a b k++(aK.take i).flatMap (eU s ⟨a,b⟩)).length+pre.length:=by rw[hop,List.length_append,List.length_map,List.length_map]
            omega
           rw[←hop]at r1 r2 r3 r4;obtain⟨n0,hn0⟩:∃n0,n0=r_.length:=⟨_,rfl⟩;rw[←hn0]at r1 r2 r3 r4 hn0b;obtain⟨q1,q2,hq1⟩:∃q1 q2,iy ⟨xf,xt⟩ (-sl) ⟨a,b⟩=⟨q1,q2⟩:=⟨_,_,rfl⟩;obtain⟨q3,q4,hq3⟩:∃q1 q2,iy ⟨xf,xt⟩ sl ⟨a,b⟩=⟨q1,q2⟩:=⟨_,_,rfl⟩;have hbd' : -1000000≤xf∧xf≤10000000∧-1000000≤xt∧xt≤10000000:=hbd;have hw1:=fun w=>Dt xf xt (-sl) a b w (by omega) (by omega) (by omega);have hw2:=fun w=>Dt xf xt sl a b w (by omega) (by omega) (by omega);simp only[hq1]at hw1;simp only[hq3]at hw2;have HW1:=Lib.hid hw1;have HW2:=Lib.hid hw2;have hpn:ak (h_ s ⟨id,⟨x,y⟩,re,an,sk⟩ ⟨a,b⟩ ⟨xf,xt⟩)=[.int .i64 s.id,.int .i64 id,.int .i64 q1,.int .i64 q2,.int .i64 q3,.int .i64 q4]:=by
            simp only[ak,h_,HO.out,hq1,hq3]
           have OB:=Lib.hid hpn;have HOP:=Lib.hid hop;have WV:=Lib.hid hn0;clear hw1 hw2 hpn hop hn0 hq1 hq3;have o0:W.cell? ⟨gu,0,none⟩=some (.slice A0 n0 c0):=r1.cell 0;have p0:W.cell? ⟨gp,0,none⟩=some (.int .i64 a):=hkp.cell 0;have p1:W.cell? ⟨gp,1,none⟩=some (.int .i64 b):=hkp.cell 1;have y0:W.cell? ⟨g9,0,none⟩=some (.int .i64 s.id):=(NM.out _ _ htt.kx).1;have l0:W.cell? ⟨gl,0,none⟩=some (.int .i64 sl):=htt.kl.cell 0;have z0:W.cell? ⟨gs,0,none⟩=some (.int .i64 id):=hks.cell 0;have x0:W.cell? ⟨Bx,0,none⟩=some (.int .i64 xf):=KB.cell 0;have x1:W.cell? ⟨Bx,1,none⟩=some (.int .i64 xt):=KB.cell 1
           gi_wp2_with fail
           refine nV 16 (fun ix vals v w1=>match ix with | 0=>v=.slice A0 n0 c0 | 1=>v=.pointer (some ⟨g9,0,none⟩) | 2=>v=.int .i64 s.id | 3=>v=.pointer (some ⟨gs,0,none⟩) | 4=>v=.int .i64 id | 5=>v=.agg #[.int .i64 xf,.int .i64 xt] | 6=>v=.int .i64 sl | 7=>v=.int .i64 (-sl) | 8=>v=.agg #[.int .i64 a,.int .i64 b] | 9=>v=.agg #[.int .i64 q1,.int .i64 q2] | 10=>v=.agg #[.int .i64 xf,.int .i64 xt] | 11=>v=.int .i64 sl | 12=>v=.agg #[.int .i64 a,.int .i64 b] | 13=>v=.agg #[.int .i64 q3,.int .i64 q4] | 14=>v=.agg #[.int .i64 s.id,.int .i64 id,.int .i64 q1,.int .i64 q2,.int .i64 q3,.int .i64 q4] | _=>∃gx,v=.slice (some ⟨gx,0,none⟩) 1 1∧W.heap.size≤gx∧aG w1 gx 75 #[.int .i64 s.id,.int .i64 id,.int .i64 q1,.int .i64 q2,.int .i64 q3,.int .i64 q4]) (by kernel_rfl) (by kernel_rfl) (by kernel_rfl) ?_ ?_ ?_ ?_
           ·intro ix vals v w1 w2 hi hr hx
            match ix,hr with
            |0,hr=>exact hr
            |1,hr=>exact hr
            |2,hr=>exact hr
            |3,hr=>exact hr
            |4,hr=>exact hr
            |5,hr=>exact hr
            |6,hr=>exact hr
            |7,hr=>exact hr
            |8,hr=>exact hr
            |9,hr=>exact hr
            |10,hr=>exact hr
            |11,hr=>exact hr
            |12,hr=>exact hr
            |13,hr=>exact hr
            |14,hr=>exact hr
            |(kx+15),hr=>obtain⟨gx,h1,h2,h3⟩:=hr;exact⟨gx,h1,h2,h3.ext hx⟩
           ·intro ix vals vJ v w1 hi hv hr;exact hr
           ·refine⟨?_,?_,?_,?_,?_,?_,?_,?_,?_,?_,?_,?_,?_,?_,?_,?_,trivial⟩
            ·intro vals w1 hx hd ha;clear hd ha;simp only[Lf];have o0:=ah hx o0;go_wp2;exact q_
            ·intro vals w1 hx hd ha;clear hd ha;simp only[Lf,au,Act.put,FR_];go_wp2;exact q_
            ·intro vals w1 hx hd ha;have e1:vals 1=.pointer (some ⟨g9,0,none⟩):=hd 1 (by decide);clear hd ha;simp only[Lf,au,Act.put,FR_,e1];clear e1;have y0:=ah hx y0;go_wp2;exact q_
            ·intro vals w1 hx hd ha;clear hd ha;simp only[Lf,au,Act.put,FR_];go_wp2;exact q_
            ·intro vals w1 hx hd ha;have e3:vals 3=.pointer (some ⟨gs,0,none⟩):=hd 3 (by decide);clear hd ha;simp only[Lf,au,Act.put,FR_,e3];clear e3;have z0:=ah hx z0;go_wp2;exact q_
            ·intro vals w1 hx hd ha;clear hd ha;simp only[Lf,au,Act.put,FR_];have x0:=ah hx x0;have x1:=ah hx x1;go_wp2;exact q_
            ·intro vals w1 hx hd ha;clear hd ha;simp only[Lf,au,Act.put,FR_];have l0:=ah hx l0;go_wp2;exact q_
            ·intro vals w1 hx hd ha;have e6:vals 6=.int .i64 sl:=hd 6 (by decide);clear hd ha;simp only[Lf,au,Act.put,FR_,e6];clear e6;go_wp2;exact q_
            ·intro vals w1 hx hd ha;clear hd ha;simp only[Lf,au,Act.put,FR_];have p0:=ah hx p0;have p1:=ah hx p1;go_wp2;exact q_
            ·intro vals w1 hx hd ha;have e5:vals 5=.agg #[.int .i64 xf,.int .i64 xt]:=hd 5 (by decide);have e7:vals 7=.int .i64 (-sl):=hd 7 (by decide);have e8:vals 8=.agg #[.int .i64 a,.int .i64 b]:=hd 8 (by decide);clear hd ha;simp only[Lf,au,Act.put,FR_,e5];simp only[e7];simp only[e8];clear e5 e7 e8;go_wp2_with fail;refine (HW1.out _).mono ?_;rintro e w2 ⟨rfl,hb2⟩;go_wp2;exact⟨rfl,hb2,rfl⟩
            ·intro vals w1 hx hd ha;clear hd ha;simp only[Lf,au,Act.put,FR_];have x0:=ah hx x0;have x1:=ah hx x1;go_wp2;exact q_
            ·intro vals w1 hx hd ha;clear hd ha;simp only[Lf,au,Act.put,FR_];have l0:=ah hx l0;go_wp2;exact q_
            ·intro vals w1 hx hd ha;clear hd ha;simp only[Lf,au,Act.put,FR_];have p0:=ah hx p0;have p1:=ah hx p1;go_wp2;exact q_
            ·intro vals w1 hx hd ha;have e9:vals 9=.agg #[.int .i64 q1,.int .i64 q2]:=hd 9 (by decide);have e10:vals 10=.agg #[.int .i64 xf,.int .i64 xt]:=hd 10 (by decide);have e11:vals 11=.int .i64 sl:=hd 11 (by decide);have e12:vals 12=.agg #[.int .i64 a,.int .i64 b]:=hd 12 (by decide);clear hd ha;simp only[Lf,au,Act.put,FR_,e9];simp only[e10];simp only[e11];simp only[e12];clear e9 e10 e11 e12;go_wp2_with fail;refine (HW2.out _).mono ?_;rintro e w2 ⟨rfl,hb2⟩;go_wp2;exact⟨rfl,hb2,rfl⟩
            ·intro vals w1 hx hd ha;have e2:vals 2=.int .i64 s.id:=hd 2 (by decide);have e4:vals 4=.int .i64 id:=hd 4 (by decide);have e9:vals 9=.agg #[.int .i64 q1,.int .i64 q2]:=hd 9 (by decide);have e13:vals 13=.agg #[.int .i64 q3,.int .i64 q4]:=hd 13 (by decide);clear hd ha;simp only[Lf,au,Act.put,FR_,e2,e4,e9,e13];clear e2 e4 e9 e13;go_wp2;exact q_
            ·intro vals w1 hx hd ha;have e14:vals 14=.agg #[.int .i64 s.id,.int .i64 id,.int .i64 q1,.int .i64 q2,.int .i64 q3,.int .i64 q4]:=hd 14 (by decide);clear hd ha;simp only[Lf,au,Act.put,FR_,e14];clear e14;have hz:=Below.size hx.aH;go_wp2;exact⟨rfl,(by repeat (first | exact Below.refl _ _ | assumption | refine Below.drew ?_ | refine below_drewN ?_ _ | refine aj ?_ _ | refine Below.setCell ?_ (by first | (simp;done) | omega | (simp;omega)) _ | refine aA ?_ (by assumption))),_,rfl,by omega,aG.new _ _ _⟩
           intro vals w5 hx5 hf;have e0:vals 0=.slice A0 n0 c0:=hf 0 (by omega);obtain⟨gx,e15,hgx,jx⟩:∃gx,vals 15=.slice (some ⟨gx,0,none⟩) 1 1∧W.heap.size≤gx∧aG w5 gx 75 #[.int .i64 s.id,.int .i64 id,.int .i64 q1,.int .i64 q2,.int .i64 q3,.int .i64 q4]:=hf 15 (by omega);clear hf o0 p0 p1 y0 l0 z0 x0 x1;have hx5:=hx5.aH;obtain⟨i0,hi0,hz0,hz1,hz2⟩:=info_parts AU;have FD:=hx5.size;have hws:w.heap.size≤W.heap.size:=hbl.size;obtain⟨v2,W7,hr,hrow2,hg2,YV,hr4⟩:=xI (P:=Tryz.prog) w5 w.heap.size 36 36 75 i0 _ 6 48 Tryz.underlying36 hi0 hz0 hz1 hz2 rfl (by omega) _ n0 _ (bT r2 hx5) r3 ⟨gx,0,none⟩ 1 (ak (h_ s ⟨id,⟨x,y⟩,re,an,sk⟩ ⟨a,b⟩ ⟨xf,xt⟩)) rfl
            (by intro i u hu;rw[OB.out]at hu;rw[Addr.add_lit,Nat.zero_add,jx.cell];simpa using hu) (by rw[OB.out];simp[Value.oneCell']) (by unfold maxLen;omega) (by omega) (by omega)
           obtain⟨A2,c2,hv,_,_⟩:=aX hrow2;subst hv;have hown5:=bT r2 hx5;have r1':=(r1.ext hx5).grown hg2 (fun e=>bQ hown5 (r1.ext hx5) (by decide) e.symm);have HK:Hid (KeepsOthers W (W7.setCell ⟨gu,0,none⟩ (.slice A2 (n0+1) c2))):=Lib.hid (((OM hx5).trans (oM hown5 hg2)).trans (KeepsOthers.setCell _ _ _));have HP:Hid (oL (fun q=>q=gu∨v0.ownBlock=some q) W5.heap.size W (W7.setCell ⟨gu,0,none⟩ (.slice A2 (n0+1) c2))):=Lib.hid (((oL.ext hx5).trans (oL.WR (fun q hq=>by rcases r4 q hq with h | h;exact .inl (.inr h);exact .inr h) hg2 YV)).trans (oL.setCell _ _ _ (.inl rfl)));have xJ:∀ {g:Nat} {t:TypeId} {cs:Array Value},aG W g t cs→75≠t→t≠36→aG (W7.setCell ⟨gu,0,none⟩ (.slice A2 (n0+1) c2)) g t cs:=fun K h1 h2 =>
            ((K.ext hx5).grown hg2 (fun e=>bQ hown5 (K.ext hx5) h1 e.symm)).far (p:=⟨gu,0,none⟩) (aG.Cc K r1 h2) _
           obtain⟨crx,hkr⟩:=htt.kr.blk;have HI:Hid (RI w gp gu g9 gl gt gr gs j cr X #[.int .i64 id,.int .i64 x,.int .i64 y,.int .i64 re,.int .i64 an,.int .i64 sk] sl a b ⟨p,f,lo,hi,no,tu,sl⟩ (m_ sats aK a b k++(aK.take i).flatMap (eU s ⟨a,b⟩)) (h_ s ⟨id,⟨x,y⟩,re,an,sk⟩ ⟨a,b⟩) Ds W5.heap.size v0 (pre++[⟨⟨xf,xt⟩,hbd⟩]) (W7.setCell ⟨gu,0,none⟩ (.slice A2 (n0+1) c2))):=by
            have hlist:(m_ sats aK a b k++(aK.take i).flatMap (eU s ⟨a,b⟩))++((pre++[(⟨⟨xf,xt⟩,hbd⟩:uN)]).map (·.1)).map (h_ s ⟨id,⟨x,y⟩,re,an,sk⟩ ⟨a,b⟩)=r_++[h_ s ⟨id,⟨x,y⟩,re,an,sk⟩ ⟨a,b⟩ ⟨xf,xt⟩]:=by rw[HOP.out];simp
            have hlen1:(r_++[h_ s ⟨id,⟨x,y⟩,re,an,sk⟩ ⟨a,b⟩ ⟨xf,xt⟩]).length=n0+1:=by rw[WV.out];simp
            refine Lib.hid ⟨xJ hkp (by decide) (by decide),xJ hks (by decide) (by decide),⟨.slice A2 (n0+1) c2,r1'.cZ 0 _,?_,?_,?_⟩,?_,hmk.keeps HK.out,hml,⟨xJ htt.kx (by decide) (by decide),xJ htt.kl (by decide) (by decide),xJ htt.kt (by decide) (by decide),htt.kr.same ((xJ hkr (by decide) (by decide)).trans hkr.symm)⟩,Nat.le_trans hsz HK.out.size⟩
            ·rw[hlist,hlen1,List.flatMap_append];have hq:=jH hrow2 (p:=⟨gu,0,none⟩) (fun e=>bQ hrow2 r1' (by decide) e) (.slice A2 (n0+1) c2);simpa using hq
            ·rw[hlist,hlen1];intro h;omega
            ·intro q hq;rcases hr4 q hq with h | h
             ·exact r4 q h
             ·exact .inr (by omega)
            ·have hb7:Below w.heap.size w W7:=(aA hbl hx5).grown hg2 (by omega) (fun q e=>(World.ownsRow.lt r2 q e).1);exact hb7.setCell (p:=⟨gu,0,none⟩) (by have:=K_.out;show w.heap.size≤gu;omega) _
           have HR:=Lib.hid hr;have o1:W7.frozen? ⟨gu,0,none⟩=false:=r1'.frozen 0;have o2:W7.cell? ⟨gu,0,none⟩=some (.slice A0 n0 c0):=r1'.cell 0;clear hr hrow2 hg2 YV hr4 hown5 r1' xJ hkr r1 r2 r3 r4 hkp hks hbl hmk hml htt hsz jx hx5 KB;refine oK 16 _ _ 1 (by kernel_rfl) rfl ?_ (fun a w q=>eP 17 _ (by kernel_rfl) (by kernel_rfl) rfl q);simp only[Lf,au,Act.put,FR_];rw[e0,e15];clear e0 e15;refine aP rfl _ _ _ rfl rfl rfl HR.out ?_;go_wp2;refine Dq ?_;exact⟨HK.out.from _,HP.out,HI.out⟩
          case hdone =>
           clear hri hpi htt r1 r1' r2 r2' r3 kf kt ki n1 n2 n3 n4 n5 n6 n7 n8 hv0 KS hkr hx;intro D xs W hD hxs hI hK;obtain⟨hkp,hks,⟨v,r1,r2,r3,r4⟩,hbl,hmk,hml,htt,hsz⟩:=hI;have hsl:s.aY.dP=sl:=by rw[HO.out]
           have YW:(xs.map (·.1)).map (h_ s ⟨id,⟨x,y⟩,re,an,sk⟩ ⟨a,b⟩)=eU s ⟨a,b⟩ ⟨id,⟨x,y⟩,re,an,sk⟩:=by
            rw[hxs,eU,hsl,HO.out,show b+sl-(a-sl)=b-a+2*sl by omega]
           have hnew:(m_ sats aK a b k++(aK.take i).flatMap (eU s ⟨a,b⟩))++(xs.map (·.1)).map (h_ s ⟨id,⟨x,y⟩,re,an,sk⟩ ⟨a,b⟩)=m_ sats aK a b k++(aK.take (i+1)).flatMap (eU s ⟨a,b⟩):=by
            rw[S9 aK a b s i _ (by rw[HTL.out];exact hit) HST.out,YW,List.append_assoc]
           rw[hnew]at r2 r3;have hole:=out_le sats aK a b k (i+1) s (by rw[HSL.out];exact hlt) Qs.out;obtain⟨r_,hop⟩:∃o,o=m_ sats aK a b k++(aK.take (i+1)).flatMap (eU s ⟨a,b⟩):=⟨_,rfl⟩;have FH:dW w.heap.size (D::Ds) W:=hmk.cons (by have:=hbl.size;have:=hB5_;omega) hK (fun h=>by have:=hml D h;omega);have hpi2:PI w gp gu a b r_ (D::Ds) W:=⟨hkp,⟨v,r1,by rw[hop];exact r2,by rw[hop];exact r3⟩,hbl,FH⟩;rw[←hop]at r2 r3 hole;obtain⟨A',c',hv,hvc,_⟩:=aX r2;subst hv;have o0:W.cell? ⟨gu,0,none⟩=some (.slice A' r_.length c'):=r1.cell 0;have o1:W.frozen? ⟨gu,0,none⟩=false:=r1.frozen 0;have HOP:=Lib.hid hop;obtain⟨n0,hn0⟩:∃n,n=r_.length:=⟨_,rfl⟩;rw[←hn0]at o0 hole;have WV:=Lib.hid hn0;have HPI2:=Lib.hid hpi2;have HTT2:=Lib.hid htt;have HHOLE:=Lib.hid hole;have K0:=Lib.hid r1;have HMK2:=Lib.hid FH;have Qu:=Lib.hid hbl;clear hkp hks r1 r2 r3 r4 hbl hmk hml htt hsz hxs YW hnew hole hop FH hpi2 hn0 hsl hvc ug HTT;by_cases h64:n0≤64
           ·have h64':(n0:Int)≤64:=by omega
            gi_wp2
            go_roundw
            case rel=>exact⟨_,_,_,_,_,_,_,_,_,_,_,_,_,_,_,_,_,_,_,_,_,_,_,_,_,_,_,_,_,_,_,_,_,_,_,_,_,_,_,_,_,_,⟨i+1,D::Ds,by omega,by go_num,rfl,Lib.hid ⟨by rw[←HOP.out,←WV.out];exact h64,by rw[←HOP.out];exact HPI2.out⟩,HTT2⟩,rfl⟩
            case measure=>simp[intOf];omega
           ·have h64':¬(n0:Int)≤64:=by omega
            have hr0:res=none:=by
             have h4:res=if (mX sats aK ⟨a,b⟩).length≤64 then some (bM (ltOf aU) (mX sats aK ⟨a,b⟩)) else none:=by first | exact HF4.out rfl rfl rfl | exact HF4.out trivial trivial trivial
             rw[h4,if_neg (by have:=HHOLE.out;omega)]
            have HR0:=Lib.hid hr0;clear hr0
            gi_wp2
            refine jq (B:=w.heap.size) (J:=NilJ w gu) (SV w gu) (fun W' hj=>?_) (D::Ds) _ (HMK2.out.keeps (KeepsOthers.setCell _ _ _)) ⟨K0.out.cZ 0 _,Qu.out.setCell (p:=⟨gu,0,none⟩) (by have:=K_.out;show w.heap.size≤gu;omega) _⟩;have hc:W'.cell? ⟨gu,0,none⟩=some (.slice none 0 0):=hj.1.cell 0;exact⟨.tuple #[.slice none 0 0,.int .i64 90],by simp[results,Tryz.results35,go_sem,hc],by rw[HR0.out];exact⟨rfl,hj.2⟩⟩
         ·have hpl:PL sats aK w gp gu a b (k+1) Ds wr:=by
           have e:=SY sats aK a b k s (by rw[HSL.out];exact hlt) Qs.out;rw[HTL.out]at e;have h:=ug.out;rw[show i=tn by omega,PS,e]at h;exact h
          have HPL2:=Lib.hid hpl;clear hpl ug HTT
          gi_wp2
          go_roundw
          case rel=>exact⟨_,_,_,_,_,_,_,_,_,_,_,_,_,_,_,_,_,_,_,_,_,_,_,_,_,_,_,_,_,_,_,_,_,_,_,_,_,_,_,_,_,_,_,_,_,_,_,_,_,_,_,_,_,_,_,_,_,_,_,_,_,_,_,_,_,_,_,_,_,_,_,_,_,_,_,_,_,_,_,_,_,_,_,_,_,_,_,_,_,_,_,⟨k+1,Ds,by omega,by go_num,rfl,HPL2⟩,rfl⟩
          case measure=>simp[intOf];omega
     ·skip;have hall:m_ sats aK a b k=mX sats aK ⟨a,b⟩:=by rw[m_,List.take_of_length_le (by rw[HSL.out];omega)];rfl
      obtain⟨hlen,hpi⟩:=uQ.out;rw[hall]at hlen hpi;have hr0:res=some (bM (ltOf aU) (mX sats aK ⟨a,b⟩)):=by
       have h4:res=if (mX sats aK ⟨a,b⟩).length≤64 then some (bM (ltOf aU) (mX sats aK ⟨a,b⟩)) else none:=by first | exact HF4.out rfl rfl rfl | exact HF4.out trivial trivial trivial
       rw[h4,if_pos hlen]
      have hNN:=HN.out hlen;obtain⟨v,r1,r2,r3⟩:=hpi.row;obtain⟨r_,hop⟩:∃o,o=mX sats aK ⟨a,b⟩:=⟨_,rfl⟩;rw[←hop]at r2 r3 hlen hr0 hNN;have HR0:=Lib.hid hr0;have YX:=Lib.hid hpi.marks;have Qu:=Lib.hid hpi.below;obtain⟨n0,hn0⟩:∃n,n=r_.length:=⟨_,rfl⟩;rw[←hn0]at r2 r3 hlen hNN;have WV:=Lib.hid hn0;clear hall hpi hr0 hop hn0 uQ;by_cases hz:n0=0
      ·have hv:=r3 hz;subst hv;have hol:r_=[]:=List.eq_nil_of_length_eq_zero (by rw[←WV.out];exact hz);have HOL:=Lib.hid hol;have hown:wr.ownsRow w.heap.size 75 6 (.slice none 0 0) 0 []:=World.ownsRow_nil _ _ _ _;have o0:wr.cell? ⟨gu,0,none⟩=some (.slice none 0 0):=r1.cell 0;have o1:wr.frozen? ⟨gu,0,none⟩=false:=r1.frozen 0;have R1:=Lib.hid r1;have HOWN:=Lib.hid hown;clear r1 r2 r3 hol hown hz hlen hNN
       gi_wp2_with fail
       refine⟨trivial,(callsIn_wide.2 (H9 68 #[] _)).mono ?_⟩;rintro e w2 ⟨rfl,rfl⟩
       gi_wp2
       refine jq (B:=w.heap.size) (J:=WS w gu (.slice none 0 0) []) (Ii w gu _ _) (fun W' hj=>?_) Ds _ (YX.out.keeps (KeepsOthers.setCell _ _ _)) ⟨R1.out.cZ 0 _,jH HOWN.out (p:=⟨gu,0,none⟩) (by simp[Value.ownBlock]) _,Qu.out.setCell (p:=⟨gu,0,none⟩) (by have:=K_.out;show w.heap.size≤gu;omega) _⟩;have hc:W'.cell? ⟨gu,0,none⟩=some (.slice none 0 0):=hj.1.cell 0;exact⟨.tuple #[.slice none 0 0,.int .i64 0],by simp[results,Tryz.results35,go_sem,hc],by rw[HR0.out,HOL.out];exact⟨_,rfl,hj.2.1,hj.2.2⟩⟩
      ·obtain⟨g,c,hv,hgb,hgl⟩:=World.ownsRow.form r2 (by omega);subst hv;have hrow:aW ak 6 w.heap.size 75 g n0 c wr r_:=⟨WV.out.symm,r2⟩;have hsrt:=HSORT.out w.heap.size g n0 c r_ wr hrow hNN;have HSRT:=Lib.hid hsrt;have o0:wr.cell? ⟨gu,0,none⟩=some (.slice (some ⟨g,0,none⟩) n0 c):=r1.cell 0;have hne:gu≠g:=fun e=>bQ r2 r1 (by decide) (by rw[e];rfl);have R1:=Lib.hid r1;have R2:=Lib.hid r2;have NP:=Lib.hid hne;clear r1 r2 r3 hrow hsrt hz hlen hNN hne
       gi_wp2_with fail
       refine⟨trivial,(callsIn_wide.2 HSRT.out).mono ?_⟩;rintro e w2 ⟨rfl,hrow2,hg2⟩;have k1:=R1.out.grown hg2 (fun e=>NP.out (by injection e));have hkk:KeepsOthers wr w2:=oM R2.out hg2;have hb2:Below w.heap.size w w2:=Qu.out.grown hg2 Qu.out.size (fun q e=>by injection e with e;omega);have hl2:(bM (ltOf aU) r_).length=n0:=by rw[cu];exact WV.out.symm
       have o0:w2.cell? ⟨gu,0,none⟩=some (.slice (some ⟨g,0,none⟩) n0 c):=k1.cell 0;have o1:w2.frozen? ⟨gu,0,none⟩=false:=k1.frozen 0;have hend:WS w gu (.slice (some ⟨g,0,none⟩) n0 c) (bM (ltOf aU) r_) (w2.setCell ⟨gu,0,none⟩ (.slice (some ⟨g,0,none⟩) n0 c)):=by
        refine⟨k1.cZ 0 _,?_,hb2.setCell (p:=⟨gu,0,none⟩) (by have:=K_.out;show w.heap.size≤gu;omega) _⟩;rw[hl2];exact jH hrow2.2 (p:=⟨gu,0,none⟩) (fun e=>bQ hrow2.2 k1 (by decide) e) _
       have zV:=Lib.hid hend;have Ce:=Lib.hid (YX.out.keeps (hkk.trans (KeepsOthers.setCell w2 ⟨gu,0,none⟩ (.slice (some ⟨g,0,none⟩) n0 c))));clear hrow2 hg2 k1 hkk hb2 hl2 hend
       gi_wp2
       refine jq (B:=w.heap.size) (J:=WS w gu (.slice (some ⟨g,0,none⟩) n0 c) (bM (ltOf aU) r_)) (Ii w gu _ _) (fun W' hj=>?_) Ds _ Ce.out zV.out;have hc:W'.cell? ⟨gu,0,none⟩=some (.slice (some ⟨g,0,none⟩) n0 c):=hj.1.cell 0;exact⟨.tuple #[.slice (some ⟨g,0,none⟩) n0 c,.int .i64 0],by simp[results,Tryz.results35,go_sem,hc],by rw[HR0.out];exact⟨_,rfl,hj.2.1,hj.2.2⟩⟩
end Go.Proofs.YtjidhhfabfnhnaaGreat
