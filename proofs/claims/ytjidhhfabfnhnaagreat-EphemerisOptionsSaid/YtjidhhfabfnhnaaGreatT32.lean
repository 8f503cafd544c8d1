/- What the walk of EphemerisOptions wants: contracts in forms, plain facts of an option. -/
import Derived.Test.YtjidhhfabfnhnaaGreatT31
import Derived.Test.YtjidhhfabfnhnaaGreatT01
import Derived.Test.YtjidhhfabfnhnaaGreatT28
import Derived.Test.YtjidhhfabfnhnaaGreatT27
import Derived.BigQuiet
import Derived.Test.YtjidhhfabfnhnaaGreatT19
namespace Go.Proofs.YtjidhhfabfnhnaaGreat
def allF (p:Int→Bool) (a:Int):Nat→Bool
 |0=>true
 |n+1=>allF p a n&&p (a+n)
def anyF (p:Int→Bool) (a:Int):Nat→Bool
 |0=>false
 |n+1=>anyF p a n||p (a+n)
section
variable {s:St} {y:iD} {span:iO} {t:Int}
theorem pair_mem (hs:dQ s=true) (hy:fZ y=true) (hsp:0≤span.fr∧span.fr<span.tt∧span.tt≤1000001) {p:bP} (hp:p∈eU s span y):p.sat=s.id∧p.dh=y.id∧span.fr≤p.can.fr∧p.can.tt≤span.tt∧fQ p=true:=by
 obtain⟨_,ho2,ho3⟩:=Fb hs;obtain⟨L,hL,hok⟩:=Yb (y:=y) ho2 (show span.fr<span.tt by omega);rw[hL,List.mem_map]at hp;obtain⟨x,hx,rfl⟩:=hp;obtain⟨i,hil,rfl⟩:=List.mem_iff_getElem.1 hx;have hg:=(Ug hok i hil).1;generalize L[i]=x at hg;generalize hk:s.aY.dP=k at ho2 ho3 hg;have hid:inB s.id 0 23=true:=by simp only[dQ,Bool.and_eq_true]at hs;exact hs.1.1.1.1.1.1.1.1.1.1.1.1.1.2
 have V7:inB y.id 0 11=true:=by simp only[fZ,Bool.and_eq_true]at hy;exact hy.1.1.1.2
 have ec:iy x k span=⟨max (x.fr-k) span.fr,min (x.tt+k) span.tt⟩:=by unfold iy;dsimp only;rw[if_neg (by omega)]
 unfold h_;rw[hk,ec];refine⟨rfl,rfl,by show span.fr≤max (x.fr-k) span.fr;omega,by show min (x.tt+k) span.tt≤span.tt;omega,?_⟩;unfold fQ;rw[Bool.and_eq_true,Bool.and_eq_true,Bool.and_eq_true];refine⟨⟨⟨hid,V7⟩,decide_eq_true (by dsimp only;omega)⟩,?_⟩;rw[Bool.or_eq_true];dsimp only;unfold iy;dsimp only
 split
 ·exact .inl (decide_eq_true rfl)
 ·exact .inr (decide_eq_true (by dsimp only;omega))
theorem BP:∀(l:List bP),jJ (ltOf aU) l→fJ l=true
 |[],_=>rfl
 |[_],_=>rfl
 |x::y::r,h=>by
  have h1:=h.1 y (by simp);rw[fJ,BP (y::r) h.2,Bool.and_true];simpa [ltOf]using h1
end
end Go.Proofs.YtjidhhfabfnhnaaGreat
namespace Go.Proofs.YtjidhhfabfnhnaaGreat
theorem Gh {S:List St} {ST:List iD} {sp:iO} {ps:List bP} (h:dB S ST sp=some ps):∀p∈ps,fQ p=true:=by
 unfold dB at h
 split at h
 ·rename_i hc
  simp only[Bool.and_eq_true]at hc;have hS:eH S=true:=by first | exact hc.1.2 | exact hc.2 | exact hc.1.1
  have hT:gU ST=true:=by first | exact hc.1.2 | exact hc.2 | exact hc.1.1
  have hp:gV sp=true:=by first | exact hc.1.2 | exact hc.2 | exact hc.1.1
  have hs2:0≤sp.fr∧sp.fr<sp.tt∧sp.tt≤1000001:=by
   unfold gV at hp;have:=of_decide_eq_true hp;omega
  split at h
  ·injection h with h;subst h;intro p hp;rw[pW]at hp;unfold mX at hp;obtain⟨s,hs,hp⟩:=List.mem_flatMap.1 hp;obtain⟨y,hy,hp⟩:=List.mem_flatMap.1 hp;exact (pair_mem ((vN hS).2 s hs) ((Fa hT).2 y hy) hs2 hp).2.2.2.2
  ·cases h
 ·cases h
theorem yN {ST:List iD} {s:St} : ∀ {xs:List Str} {ps:List bP},dA ST s xs=some ps→∀p∈ps,fQ p=true
 |[],ps,h,p,hp=>by
  unfold dA at h;injection h with h;subst h;cases hp
 |x::r,ps,h,p,hp=>by
  unfold dA at h;cases h1:dB [nH s x.eY] ST x.sp with
  |none=>rw[h1]at h;cases h
  |some a =>
   cases h2:dA ST s r with
   |none=>rw[h1,h2]at h;cases h
   |some b =>
    rw[h1,h2]at h;injection h with h;subst h;rcases List.mem_append.1 hp with hp | hp
    ·exact Gh h1 p hp
    ·exact yN h2 p hp
theorem Jm {S:List St} {ST:List iD} {l:List fE} {sp:iO} {kn:Int} {a:List bP} (h:bU S ST l sp kn=some a):iE a=true:=by
 have hl:a.length≤64:=by
  unfold bU at h
  split at h
  ·split at h
   ·cases h
   ·split at h
    ·injection h with h;rw[←h,cu];assumption
    ·cases h
  ·cases h
 obtain⟨o,h1,rfl⟩:=sU h;have hok:(bM (ltOf aU) o).all fQ=true:=List.all_eq_true.2 fun p hp=>by
  rw[pW]at hp;obtain⟨s,_,ps,h3,h4⟩:=(wQ h1 p).1 hp;exact yN h3 p h4
 rw[iE,decide_eq_true hl,hok,BP _ (kR La _)];rfl
theorem MW {S:List St} {ST:List iD} {l:List fE} {sp:iO} {kn:Int} {a:List bP} (h:bU S ST l sp kn=some a):a.length≤64∧∀p∈a,(0≤p.sure.fr∧p.sure.fr≤1000001)∧0≤p.sure.tt∧p.sure.tt≤1000001:=by
 have hp:=Jm h;unfold iE at hp;simp only[Bool.and_eq_true,decide_eq_true_eq]at hp;exact⟨hp.1.1,fun p hm=>by have:=ZH (List.all_eq_true.1 hp.1.2 p hm);omega⟩
end Go.Proofs.YtjidhhfabfnhnaaGreat
namespace Go.Proofs.YtjidhhfabfnhnaaGreat
open Go.RowKit
attribute [local go_sem] Oper.semAt_some
theorem yA {P:Program} (w:World) (t ty e:TypeId) (i:TypeInfo) (ht:P.underlying t=some (.slice e)) (hi:P.info? e=some i) (A:Option Addr) (c':Nat) :
  (Builtin.append_ #[t,t] ty #[.slice none 0 0,.slice A 0 c']).run P w=.ok (.slice none 0 0) w:=by
 cases A<;>simp[Builtin.append_,run_underlying ht,sizeOf,typeInfo,hi,Builtin.lenOf,Builtin.firstCells,loadCells,loadCellsFrom]
theorem app_ra {α:Type} {cells:α→List Value} {s bytes:Nat} {w:World} (t ty e:TypeId) (i0:TypeInfo) (z:Value) (ht:Tryz.prog.underlying t=some (.slice e)) (hi:Tryz.prog.info? e=some i0) (hz:i0.zero=some z) (hsz:i0.size=s) (hby:i0.bytes=bytes) (hzs:z.cells.size=s) (h0:0<s) (hb1:bytes≤100000)
  (h1:∀x,∀u∈cells x,u.oneCell'=true) (xs ys:List α) (v:Value) (base b n c:Nat) (A:Option Addr) (hx:w.ownsRow base e s v xs.length (xs.flatMap cells)) (hy:RA cells s w b A n c ys) (hn:xs.length+n≤100000) (hb:base≤w.heap.size) :
  ∃v' w',(Builtin.append_ #[t,t] ty #[v,.slice A n c]).run Tryz.prog w=.ok v' w'∧w.grownBy w' v.ownBlock∧w'.ownsRow base e s v' (xs++ys).length ((xs++ys).flatMap cells):=by
 have hl:=hy.len;rcases Nat.eq_zero_or_pos n with hn0 | hn0
 ·subst hn0;obtain rfl:ys=[]:=List.eq_nil_of_length_eq_zero hl;rw[List.append_nil];refine⟨v,w,?_,⟨rfl,rfl,rfl,Nat.le_refl _,fun _ _ _=>rfl⟩,hx⟩;rcases hx.2 with ⟨rfl,_⟩ | ⟨g,cap,cur,rfl,_,_,hc,_⟩
  ·exact yA w t ty e i0 ht hi A c
  ·exact qU w t ty e i0 ht hi _ _ _ hc A c
 ·obtain⟨b',o,rfl,_,hc⟩:=hy.rd.2 hn0;obtain⟨v',w',h3,h4,h5,-⟩:=run_append_own (P:=Tryz.prog) w base t ty e i0 z s bytes ht hi hz hsz hby hzs h0 v _ _ hx ⟨b',o,none⟩ n c _ hy.rd.1 (fun j u hu=>by rw[Addr.add_lit];exact hc j u hu) (fun u hu=>by obtain⟨x,_,hx⟩:=List.mem_flatMap.1 hu;exact h1 x u hx) (by unfold maxLen;omega) (by have:=Nat.mul_le_mul hn hb1;omega) hb;refine⟨v',w',h3,h5,?_⟩;rw[List.length_append,List.flatMap_append,hl];exact h4
theorem U3 {w:World} (ty:TypeId) (xs ys:List iY) (v:Value) (A:Option Addr) (n c base b2:Nat) (h:ji w base v xs) (hy:ji w b2 (.slice A n c) ys) (hn:n=ys.length) (hl:xs.length+n≤900) (hb:base≤b2) (hb2:base≤w.heap.size) :
  ∃v' w',(Builtin.append_ #[35,35] ty #[v,.slice A n c]).run Tryz.prog w=.ok v' w'∧w.grownBy w' v.ownBlock∧ji w' base v' (xs++ys):=by
 obtain⟨i0,hi0,hz0,hz1,hz2⟩:=info_parts I4;have hr:RA dX 9 w w.heap.size A n c ys:=RA.d_ (by have h:=hy.1;rw[←hn]at h;exact h) hn.symm (by omega);obtain⟨v2,w2,h1,h2,h3⟩:=app_ra 35 ty 49 i0 _ Tryz.underlying35 hi0 hz0 hz1 hz2 rfl (by omega) (by omega) (fun x u hu=>by have:=TU x;rw[Array.all_eq_true_iff_forall_mem]at this;exact this u (by simpa using hu)) xs ys v base w.heap.size n c A h.1 hr (by omega) hb2;refine⟨v2,w2,h1,h2,h3,fun x hx=>?_⟩;rcases List.mem_append.1 hx with hx | hx
 ·exact⟨(h.2 x hx).1,tX (h.2 x hx).2 h.1 (by decide) h2⟩
 ·exact⟨(hy.2 x hx).1,tX (own_base (hy.2 x hx).2 hb) h.1 (by decide) h2⟩
def Jo (fO:Int) (P:List bP) (b:Nat) (v:Value) (W:World):Prop:=∃os,ji W b v os∧(∀o∈os,lV fO P o.o)∧os.length≤5
theorem Jo.ext {fO:Int} {P:List bP} {b:Nat} {v:Value} {W W':World} (h:Jo fO P b v W) (hx:Ext W W'):Jo fO P b v W':=by
 obtain⟨os,h1,h2⟩:=h;exact⟨os,h1.ext hx,h2⟩
def BR (S:List St) (R:Option (List bP)) (w:World) (e:Ending) (w':World):Prop:=∃vO opts vP P,e=.returned (.tuple #[vO,vP])∧ji w' w.heap.size vO opts∧opts.length≤5*S.length∧(∀o∈opts,∃s∈S,lV s.id P o.o)∧(R=none→opts=[]∧P=[])∧(∀p,R=some p→P=p)∧w'.ownsRow w.heap.size 75 6 vP P.length (P.flatMap ak)∧Ext w w'
set_option maxRecDepth 100000 in
set_option maxHeartbeats 4000000 in
theorem Qc (S:List St) (ST:List iD) (US:List fE) (X:List A5) (SA TA UA XA:Option Addr) (sn sc tn tc un uc xn xc:Nat) (a b:Int) (w:World) (hS:RA aC 21 w w.heap.size SA sn sc S) (hT:RA bJ 6 w w.heap.size TA tn tc ST) (hU:RA aI 10 w w.heap.size UA un uc US)
  (hX:RA qJ 5 w w.heap.size XA xn xc X) (Zm:∀x∈X,x.ok) (hso:∀s∈S,dQ s=true) (hsn:sn≤100) (ha0:0≤a) (ha1:a≤900000) :
  Calls Tryz.prog 12 #[.slice SA sn sc,.slice TA tn tc,.slice UA un uc,.agg #[.int .i64 a,.int .i64 b],.slice XA xn xc] w (BR S (bU S ST US ⟨a,b⟩ a) w):=by
 have hP:=fun (W:World) (hx:Ext w W)=>Dn S ST US SA TA UA sn sc tn tc un uc a b a W (aB hS hx) (aB hT hx) (aB hU hx);have hbd:∀o,bU S ST US ⟨a,b⟩ a=some o→o.length≤64∧∀p∈o,(0≤p.sure.fr∧p.sure.fr≤1000001)∧0≤p.sure.tt∧p.sure.tt≤1000001:=fun o h=>MW h;generalize bU S ST US ⟨a,b⟩ a=R at hP hbd⊢;have hsl:=hS.len;have hsc:=hS.cap;have HP:=Lib.hid hP;have HBD:=Lib.hid hbd;have HS:=Lib.hid hS;have HX:=Lib.hid hX;have Y8:=Lib.hid Zm;have HSO:=Lib.hid hso;have HSL:Hid (S.length=sn):=Lib.hid hsl;have HT:Hid (∀e W,BR S R w e W→BR S R w e W):=Lib.hid (fun _ _ h=>h);obtain⟨PQ,hPQ⟩:∃Q:Ending→World→Prop,Q=BR S R w:=⟨_,rfl⟩;rw[←hPQ];have IQ:Hid (∀e W,BR S R w e W→PQ e W):=Lib.hid (fun _ _ h=>by rw[hPQ];exact h);clear hP hbd hS hT hU hX Zm hso hsl hPQ HT;go_enter Tryz.func12,Tryz.ntmps12;go_upto_region 1 with (fail);have J8:aG (w.alloc (.cells #[.int .i64 a,.int .i64 b] 32)) w.heap.size 32 #[.int .i64 a,.int .i64 b]:=aG.new _ _ _;have hx0:Ext w (w.alloc (.cells #[.int .i64 a,.int .i64 b] 32)):=aj (Below.refl _ _) _;obtain⟨g8,hg8⟩:∃g,g=w.heap.size:=⟨_,rfl⟩;rw[←hg8]at J8⊢;generalize w.alloc (.cells #[.int .i64 a,.int .i64 b] 32)=W0 at J8 hx0⊢;clear hg8;have s0:W0.cell? ⟨g8,0,none⟩=some (.int .i64 a):=J8.cell 0;have s1:W0.cell? ⟨g8,1,none⟩=some (.int .i64 b):=J8.cell 1;have HX0:=Lib.hid hx0;have uP:=Lib.hid J8;have HO:=Lib.hid (HP.out W0 hx0);clear J8 hx0 HP;cases R with
 |none =>
  go_wp2_with (fail);refine HO.out.mono ?_;rintro e W1 ⟨rfl,hx1⟩;have kC:=Lib.hid (Ext.trans HX0.out hx1);clear s0 s1 hx1;go_wp2;go_loopw [14,15] (fun u i wr=>u=.slice none 0 0∧i=.int .i64 0∧wr=W1) (fun _ i _=>0)
  case atStart=>exact⟨rfl,rfl,rfl⟩
  case round =>
   obtain⟨rfl,rfl,rfl⟩:=hrel;by_cases hn0:0<sn
   all_goals
    go_wp2;exact IQ.out _ _ ⟨_,[],_,[],rfl,ji.nil _ _,Nat.zero_le _,(fun o h=>by cases h),(fun _=>⟨rfl,rfl⟩),(fun p h=>by cases h),World.ownsRow_nil _ _ _ _,kC.out⟩
 |some P =>
  obtain⟨hb1,hb2⟩:=HBD.out P rfl;have HPB:=Lib.hid hb2;clear HBD hb2;go_wp2_with (fail);refine HO.out.mono ?_;rintro e W1 ⟨⟨v1,rfl,hown1⟩,hx1⟩;obtain⟨PA,pc,hv1,_⟩:=qH hown1;subst hv1;obtain⟨pn,hpn⟩:∃n,n=P.length:=⟨_,rfl⟩;have hown2:=own_base hown1 (Below.size HX0.out);rw[←hpn]at hown1 hown2 hb1⊢;have Vy:Hid (RA ak 6 W1 W1.heap.size PA pn pc P):=Lib.hid (RA.d_ hown1 hpn.symm (by omega));have HOP:=Lib.hid hown2;have OB:=Lib.hid hpn;have kC:=Lib.hid (Ext.trans HX0.out hx1);have uP:=Lib.hid (uP.out.ext hx1);clear s0 s1 hx1 hown1 hown2 hpn HO HX0;go_wp2;go_loopw [14,15] (fun u i wr=>∃(k:Nat) (os:List iY),k≤sn∧i=.int .i64 k∧os.length≤5*k∧Hid (∀o∈os,∃s∈S,lV s.id P o.o)∧Hid (ji wr W1.heap.size u os)∧Ext W1 wr) (fun _ i _=>sn-(intOf i).toNat)
  case atStart=>exact⟨0,[],Nat.zero_le _,rfl,Nat.zero_le _,Lib.hid (fun o h=>by cases h),Lib.hid (ji.nil _ _),Ext.refl _⟩
  case round =>
   obtain⟨k,os,hk,rfl,hol,HG,HQ,hx⟩:=hrel;obtain⟨OA,oc,hv,_⟩:=qH HQ.out.1;subst hv;obtain⟨on,hon⟩:∃n,n=os.length:=⟨_,rfl⟩;rw[←hon]at hol HQ⊢;have CP:=Lib.hid hon;clear hon;by_cases hkn:k<sn
   ·skip;have hkz:(k:Int)<(sn:Int):=by omega
    have hBw:=Ext.trans kC.out hx;obtain⟨bs,ob,hz,hA,_,hcs⟩:=RA.range gJ (HS.out.below hBw) hkn;have hso:=HSO.out S[k] (List.getElem_mem hz);have hsm:=List.getElem_mem hz;subst hA;generalize S[k]=s at hcs hso hsm;have Sz:=Lib.hid hsm;clear hsm hz;have HOPT:Hid (∀W,Ext wr W→Calls Tryz.prog 42 #[.agg (aC s).toArray,.slice PA pn pc,.int .i64 a,.int .i64 (10*(k:Int)),.slice XA xn xc] W (Us s.id P W)):=Lib.hid (fun W h=>Dk s P X PA XA pn pc xn xc a (10*(k:Int)) W hso (aB Vy.out (Ext.trans hx h)) (aB (aB HX.out hBw) h) Y8.out HPB.out (by omega) ha0 (by omega) (by omega) (by omega));obtain⟨SX,g_⟩:∃X,(aC s).toArray=X:=⟨_,rfl⟩;rw[g_]at HOPT;have kF:=Lib.hid g_;have HCS:=Lib.hid hcs;have HW:=Lib.hid hx;have m0:wr.cell? ⟨g8,0,none⟩=some (.int .i64 a):=(uP.out.ext hx).cell 0;have Gt:IntKind.i64.wrap (10*(k:Int))=10*(k:Int):=IntWalk.i64_in _ (by omega);clear hso hcs g_ hx hBw;go_upto_region 6 with (fail);refine aF 12 [some (.slice OA on oc),some (.slice (some ⟨bs,ob,none⟩) sn sc),some (.int .i64 (k:Int)),some (.pointer (some ⟨bs,ob+k*21,none⟩)),some (.agg SX),some (.slice PA pn pc),some (.pointer (some ⟨g8,0,none⟩)),some (.int .i64 a),some (.int .i64 (k:Int)),some (.int .i64 (10*(k:Int))),some (.slice XA xn xc),none] [(11,.w fun v w1=>Jo s.id P wr.heap.size v w1)] ?_ ?_ ?_
    ·refine⟨?_,trivial⟩
     ·intro v w1 w2 hr hx;exact hr.ext hx
    ·refine⟨?_,?_,?_,?_,?x4,?_,?_,?_,?_,?_,?_,?x11,trivial⟩
     case x4 =>
      intro vals w1 hx hd;clear hd;simp only[Lf,au,Act.put,bH,bG];refine ay rfl 53 _ rfl bs (ob+k*21) rfl SX (aC s) kF.out _ (RA.dD HCS.out hx.aH) Tryz.underlying53 rfl (by rw[gJ];exact aQ) ?_;go_wp2;exact q_
     case x11 =>
      intro vals w1 hx hd;clear hd;simp only[Lf,au,Act.put,bH,bG];go_wp2_with fail;refine (HOPT.out _ hx.aH).mono ?_;rintro e w2 ⟨v2,os2,rfl,h1,h2,h3,hx2⟩;go_wp2;exact⟨rfl,hx2,os2,h1.base (Below.size hx.aH),h2,h3⟩
     all_goals
      intro vals w1 hx hd;clear hd;simp only[Lf,au,Act.put,bH,bG];have m0:=ah hx m0;go_wp2;exact iq
    intro vals W3 hx hf;have e0:vals 0=.slice OA on oc:=hf 0 (by omega);obtain⟨os2,h1,h2,h3⟩:Jo s.id P wr.heap.size (vals 11) W3:=hf 11 (by omega);have hx:=hx.aH;clear hf m0 Gt HOPT;obtain⟨BA,bc,hv2,_⟩:=qH h1.1;obtain⟨bn,hbn⟩:∃n,n=os2.length:=⟨_,rfl⟩;rw[←hbn]at hv2 h3;rw[hv2]at h1;have hQ3:=HQ.out.ext hx;have hxx:=Ext.trans HW.out hx;have hB1:=Below.size HW.out;have hB3:=Below.size hxx;obtain⟨v5,W5,hrun,hgr,ho5⟩:=U3 35 os os2 (.slice OA on oc) BA bn bc W1.heap.size wr.heap.size hQ3 h1 hbn (by rw[←CP.out];omega) hB1 hB3;have hx5:Ext W1 W5:=hxx.grown hgr hB3 (fun q e=>(World.ownsRow.lt hQ3.1 q e).1);have yZ:=Lib.hid hx5;have HO5:=Lib.hid ho5;have HL5:Hid ((os++os2).length≤5*(k+1)):=Lib.hid (by rw[List.length_append,←CP.out,←hbn];omega);have HG5:Hid (∀o∈os++os2,∃s∈S,lV s.id P o.o):=Lib.hid (fun o ho=>by
     rcases List.mem_append.1 ho with ho | ho
     ·exact HG.out o ho
     ·exact⟨s,Sz.out,h2 o ho⟩)
    have jY:=Lib.hid hrun;clear hrun hgr ho5 hx5 hx hxx hB1 hB3 hQ3 h1 h2 h3 hbn;refine oK 12 _ _ 1 (by kernel_rfl) rfl ?_ (fun a w q=>eP 13 _ (by kernel_rfl) (by kernel_rfl) rfl q);simp only[Lf,au,Act.put,FR_];rw[e0,hv2];clear e0 hv2;refine aP rfl _ _ _ rfl rfl rfl jY.out ?_;go_wp2;go_roundw
    case rel=>exact⟨k+1,os++os2,by omega,by go_num,HL5.out,HG5,HO5,yZ.out⟩
    case measure=>simp[intOf];omega
   ·skip;have hkz:¬(k:Int)<(sn:Int):=by omega
    have DY:=Lib.hid (Ext.trans kC.out hx);have ZL:=Lib.hid (bT HOP.out hx);have HQE:=Lib.hid (HQ.out.base (Below.size kC.out));have HLE:Hid (os.length≤5*S.length):=Lib.hid (by rw[←CP.out,HSL.out];omega);have hpn2:=OB.out;clear hx;go_wp2;exact IQ.out _ _ ⟨_,os,_,P,rfl,HQE.out,HLE.out,HG.out,(fun h=>by cases h),(fun p h=>by injection h),by rw[←hpn2];exact ZL.out,DY.out⟩
end Go.Proofs.YtjidhhfabfnhnaaGreat
namespace Go.Proofs.YtjidhhfabfnhnaaGreat
def wR (old now:List bP) (s:xu):Bool:=match old[s.p.toNat]? with
 |none=>false
 |some p=>now.any (fH p.sat p.dh s.fr s.tt)
def lN (o:wF) (old now:List bP):Bool:=o.slots.all (wR old now)
theorem U4 {fO:Int} {P now:List bP} {s:xu} (h:I7 fO P s):ni P now s=!wR P now s:=by
 obtain⟨h1,q,hq,h2,_⟩:=h;unfold ni wR;rw[h2,Int.toNat_natCast,List.getElem?_eq_getElem hq];dsimp only;rw[if_neg (by omega)]
theorem Ep {fO:Int} {P now:List bP} : ∀ {l:List xu},(∀s∈l,I7 fO P s)→l.any (ni P now)=!l.all (wR P now)
 |[],_=>rfl
 |s::r,h=>by
  rw[List.any_cons,List.all_cons,U4 (h s (List.mem_cons_self ..)),Ep (fun x hx=>h x (List.mem_cons_of_mem _ hx)),Bool.not_and]
def wS (f:Int→iM) (a b:Int):Bool:=decide (∀i:Nat,i<(b-a).toNat→f (a+i)=f a)
theorem Yc {f:Int→iM} {a b:Int} (hab:a<b):∃s r,eX f a (b-a).toNat=s::r∧s.eY=f a∧(s.sp=⟨a,b⟩↔wS f a b=true):=by
 obtain⟨n,hn⟩:∃n,n=(b-a).toNat:=⟨_,rfl⟩;have hb:b=a+n:=by omega
 unfold wS;rw[←hn];by_cases hc:∀i:Nat,i<n→f (a+i)=f a
 ·have h:=zf f n n a (by omega) (Nat.le_refl _) hc (.inl rfl);exact⟨_,_,h,rfl,by simp[hb];exact hc⟩
 ·
  obtain⟨k,hk,hk1,hk2⟩:∃k,k<n∧f (a+(k:Nat))≠f a∧∀i:Nat,i<k→f (a+i)=f a:=by
   have:∃i:Nat,i<n∧f (a+i)≠f a:=by
    refine Classical.byContradiction fun h=>hc fun i hi=>Classical.byContradiction fun h2=>h ⟨i,hi,h2⟩
   obtain⟨i,hi,hi2⟩:=this;have key:∀m,m≤n→(∃k,k<m∧f (a+(k:Nat))≠f a∧∀i:Nat,i<k→f (a+i)=f a)∨∀i:Nat,i<m→f (a+i)=f a:=by
    intro m
    induction m with
    |zero=>intro _;exact .inr fun i h=>by omega
    |succ m ih =>
     intro hm;rcases ih (by omega)with ⟨k,h1,h2⟩ | h
     ·exact .inl ⟨k,by omega,h2⟩
     ·by_cases hq:f (a+(m:Nat))=f a
      ·refine .inr fun i hi=>?_
       by_cases e:i=m
       ·rw[e];exact hq
       ·exact h i (by omega)
      ·exact .inl ⟨m,by omega,hq,h⟩
   rcases key n (Nat.le_refl _)with ⟨k,h1,h2,h3⟩ | h
   ·exact⟨k,h1,h2,h3⟩
   ·exact absurd h hc
  have h0:1≤k:=by
   rcases Nat.eq_zero_or_pos k with e | e
   ·rw[e]at hk1;simp at hk1
   ·exact e
  have h:=zf f k n a h0 (by omega) hk2 (.inr hk1);refine⟨_,_,h,rfl,?_⟩;constructor
  ·intro e;have e2:a+(k:Int)=b:=congrArg iO.tt e;omega
  ·intro e;exact absurd (of_decide_eq_true e) hc
variable {S:List St} {l:List fE} {o:wF} {s:St} {P now:List bP} {kn:Int}
theorem Jp (hf:S.find? (fun x=>x.id==o.sat)=some s) (hg:lV s.id P o) :
  lU S l o P now kn=if wS (fK s l kn) o.a o.b=true then (match iC (fK s l kn o.a) o.a o.b o.look with
   |none=>none
   |some r=>if lN o P now=true then some r else none) else none:=by
 obtain⟨h1,h2,h3,h4,h5,h6⟩:=hg;obtain⟨x,r,e1,e2,e3⟩:=Yc (f:=fK s l kn) h3;unfold lU;rw[hf];dsimp only;rw[e1];dsimp only;rw[e2,Ep h6];by_cases hc:wS (fK s l kn) o.a o.b=true
 ·rw[if_pos (e3.2 hc),if_pos hc];cases iC (fK s l kn o.a) o.a o.b o.look with
  |none=>rfl
  |some r =>
   unfold lN;cases o.slots.all (wR P now)<;>rfl
 ·rw[if_neg (fun h=>hc (e3.1 h)),if_neg hc]
theorem Jq {x y:Int} {a b:List bP} {r1 r2:List Int×List Int} (hf:S.find? (fun x=>x.id==o.sat)=some s) (hg:lV s.id a o) (h1:wS (fK s l x) o.a o.b=true) (h2:lN o a a=true)
  (h3:iC (fK s l x o.a) o.a o.b o.look=some r1) (h4:iC (fK s l y o.a) o.a o.b o.look=some r2) :
  sN S l a a b x y o=!(wS (fK s l y) o.a o.b&&(decide (r1.1=r2.1)&&decide (r1.2=r2.2))&&lN o a b):=by
 unfold sN;rw[Jp hf hg,Jp hf hg,if_pos h1,h3,h4];dsimp only;rw[if_pos h2];dsimp only;cases wS (fK s l y) o.a o.b
 ·rfl
 ·cases lN o a b
  ·simp
  ·simp
theorem MZ {ST:List iD} {sp:iO} {x y:Int} {a b:List bP} {r1:List Int×List Int} (hxy:x≤y) (ha:bU S ST l sp x=some a) (hb:bU S ST l sp y=some b) (hf:S.find? (fun x=>x.id==o.sat)=some s) (hg:lV s.id a o) (h1:wS (fK s l x) o.a o.b=true) (h2:lN o a a=true)
  (h3:iC (fK s l x o.a) o.a o.b o.look=some r1) (hn:l.any (kK s.id x y)=false):sN S l a a b x y o=false:=by
 have ho:=yx hxy hn;have hc:lN o a b=true:=by
  unfold lN at h2⊢;rw[List.all_eq_true]at h2⊢;intro u hu;have:=h2 u hu;obtain⟨k1,q,hq,k2,k3⟩:=hg.2.2.2.2.2 u hu;unfold wR at this⊢;rw[k2,Int.toNat_natCast,List.getElem?_eq_getElem hq]at this⊢;dsimp only at this⊢;rw[List.any_eq_true]at this⊢;obtain⟨p,hp,hc⟩:=this;refine⟨p,(MV hxy ha hb hn ?_).1 hp,hc⟩;unfold fH at hc;simp only[Bool.and_eq_true,beq_iff_eq,decide_eq_true_eq]at hc;rw[←k3]
  first | exact hc.1.1.1 | exact hc.1
 rw[Jq hf hg h1 h2 h3 (by rw[←ho];exact h3),←ho,h1,hc];simp
theorem U5 (f:wF→Bool):∀(opts:List iY) (i k:Nat) (h:k<opts.length),((i+k:Nat):Int)∈jR f i opts↔f opts[k].o=true:=by
 have lo:∀(opts:List iY) (i:Nat) (z:Int),z∈jR f i opts→(i:Int)≤z:=by
  intro opts
  induction opts with
  |nil=>intro i z h;cases h
  |cons o r ih =>
   intro i z h;unfold jR at h
   split at h
   ·rcases List.mem_cons.1 h with h | h
    ·omega
    ·have:=ih (i+1) z h;omega
   ·have:=ih (i+1) z h;omega
 intro opts
 induction opts with
 |nil=>intro i k h;simp at h
 |cons o r ih =>
  intro i k h;unfold jR;cases k with
  |zero =>
   rw[Nat.add_zero]
   show _↔f o.o=true
   by_cases hq:f o.o=true
   ·rw[if_pos hq];simp[hq]
   ·rw[if_neg hq];constructor
    ·intro hm;have:=lo r (i+1) _ hm;omega
    ·intro hm;exact absurd hm hq
  |succ k =>
   have hk:k<r.length:=by simpa using h
   have:=ih (i+1) k hk;rw[show i+1+k=i+(k+1) by omega]at this
   show _↔f r[k].o=true
   by_cases hq:f o.o=true
   ·rw[if_pos hq,List.mem_cons,←this];constructor
    ·rintro (h | h)
     ·omega
     ·exact h
    ·exact .inr
   ·rw[if_neg hq];exact this
theorem Qd (f:wF→Bool) (opts:List iY) (k:Nat) (h:k<opts.length):decide ((k:Int)∈jR f 0 opts)=f opts[k].o:=by
 have:=U5 f opts 0 k h;rw[Nat.zero_add]at this;by_cases hq:f opts[k].o=true
 ·rw[hq];exact decide_eq_true (this.2 hq)
 ·rw[Bool.not_eq_true]at hq;rw[hq];exact decide_eq_false (fun h=>by rw[this,hq]at h;cases h)
def j_ (id:Int) (z:St):List St→St
 |[]=>z
 |x::r=>j_ id (if x.id=id then x else z) r
theorem BU (id:Int) (x:St):∀(l:List St) (z:St),j_ id z (l++[x])=if x.id=id then x else j_ id z l
 |[],_=>rfl
 |y::r,z=>by rw[List.cons_append,j_,BU id x r];rfl
theorem Es {ok:St→Bool} : ∀ {l:List St} {p:Option St},dH ok (·.id) p l=true→∀x∈l,∀y,p=some y→y.id<x.id
 |[],_,_,_,h,_,_=>by cases h
 |u::r,p,h,x,hx,y,hy=>by
  unfold dH at h;subst hy;simp only[Bool.and_eq_true,decide_eq_true_eq]at h;rcases List.mem_cons.1 hx with e | e
  ·rw[e];exact h.1.2
  ·have:=Es h.2 x e u rfl;omega
theorem BZ {id:Int} : ∀ {l:List St} {z:St},(∀x∈l,x.id≠id)→j_ id z l=z
 |[],_,_=>rfl
 |x::r,z,h=>by rw[j_,if_neg (h x (List.mem_cons_self ..)),BZ fun y hy=>h y (List.mem_cons_of_mem _ hy)]
theorem B_ {ok:St→Bool} {s z:St} : ∀ {l:List St} {p:Option St},dH ok (·.id) p l=true→s∈l→j_ s.id z l=s∧l.find? (fun x=>x.id==s.id)=some s
 |[],_,_,h=>by cases h
 |u::r,p,h,hs=>by
  unfold dH at h;simp only[Bool.and_eq_true]at h;have hlo:=fun x hx=>Es h.2 x hx u rfl;by_cases e:u.id=s.id
  ·have hsu:s=u:=by
    rcases List.mem_cons.1 hs with h1 | h1
    ·exact h1
    ·have:=hlo s h1;omega
   subst hsu;rw[j_,if_pos rfl,BZ fun y hy=>by have:=hlo y hy;omega,List.find?_cons_of_pos (by simp)];exact⟨rfl,rfl⟩
  ·have h1:s∈r:=by
    rcases List.mem_cons.1 hs with h1 | h1
    ·exact absurd (by rw[h1]) e
    ·exact h1
   rw[j_,if_neg e,List.find?_cons_of_neg (by simpa using e)];have:∀z,j_ s.id z r=s∧r.find? (fun x=>x.id==s.id)=some s:=fun z=>B_ h.2 h1;exact this z
end Go.Proofs.YtjidhhfabfnhnaaGreat
namespace Go.Proofs.YtjidhhfabfnhnaaGreat
open Go.RowKit
attribute [local go_sem] Oper.semAt_some
theorem Jr {α:Type} (f:α→Bool) (l:List α) (j:Nat) (h:j<l.length):(l.take (j+1)).any f=((l.take j).any f||f l[j]):=by
 rw[List.take_succ_eq_append_getElem h,List.any_append];simp
theorem U6 {α:Type} (f:α→Bool) (l:List α) (j:Nat) (h:j<l.length):(l.take (j+1)).all f=((l.take j).all f&&f l[j]):=by
 rw[List.take_succ_eq_append_getElem h,List.all_append];simp
theorem all_false {α:Type} {f:α→Bool} {l:List α} {j:Nat} (h:j<l.length) (hf:f l[j]=false):l.all f=false:=by
 rw[List.all_eq_false];exact⟨l[j],List.getElem_mem h,by simp[hf]⟩
set_option maxRecDepth 100000 in
set_option maxHeartbeats 4000000 in
theorem yO (x:iY) (old now:List bP) (OA NA:Option Addr) (on oc nn nc:Nat) (w:World) (hO:RA ak 6 w w.heap.size OA on oc old) (hN:RA ak 6 w w.heap.size NA nn nc now) (hL:RA dR 3 w w.heap.size x.la x.ln x.lc x.o.slots) (hg:∀s∈x.o.slots,∃q:Nat,q<old.length∧s.p=(q:Int)) :
  Calls Tryz.prog 18 #[.agg (dX x).toArray,.slice OA on oc,.slice NA nn nc] w fun e w'=>e=.returned (.bool (lN x.o old now))∧Ext w w':=by
 obtain⟨⟨c0,c1,c2,c3,c4,c5,c6,c7,sl⟩,LA,ln,lc⟩:=x;dsimp only at hL hg ⊢
 show Calls Tryz.prog 18 #[.agg #[.int .i64 c0,.int .i64 c1,.int .i64 c2,.int .i64 c3,.int .i64 c4,.int .i64 c5,.int .i64 c6,.int .i64 c7,.slice LA ln lc],_,_] w _
 obtain⟨R,hR⟩:∃R,R=lN ⟨c0,c1,c2,c3,c4,c5,c6,c7,sl⟩ old now:=⟨_,rfl⟩;rw[←hR];have HR:Hid (R=sl.all (wR old now)):=Lib.hid hR;have hll:=hL.len;have hln:=hL.le;have hlc:=hL.cap;have hol:=hO.len;have hoc:=hO.cap;have hnl:=hN.len;have hncc:=hN.cap;have hnle:=hN.le;have HO:=Lib.hid hO;have HN:=Lib.hid hN;have HL:=Lib.hid hL;have HG:=Lib.hid hg;have HLL:=Lib.hid hll;have X7:=Lib.hid hnl;have HOL:=Lib.hid hol;clear hR hO hN hL hg hll hol hnl;go_enter Tryz.func18,Tryz.ntmps18;go_upto_region 1 with (fail);have J3:aG (w.alloc (.cells #[.int .i64 c0,.int .i64 c1,.int .i64 c2,.int .i64 c3,.int .i64 c4,.int .i64 c5,.int .i64 c6,.int .i64 c7,.slice LA ln lc] 49)) w.heap.size 49 #[.int .i64 c0,.int .i64 c1,.int .i64 c2,.int .i64 c3,.int .i64 c4,.int .i64 c5,.int .i64 c6,.int .i64 c7,.slice LA ln lc]:=aG.new _ _ _;have hB:Ext w (w.alloc (.cells #[.int .i64 c0,.int .i64 c1,.int .i64 c2,.int .i64 c3,.int .i64 c4,.int .i64 c5,.int .i64 c6,.int .i64 c7,.slice LA ln lc] 49)):=aj (Below.refl _ _) _;obtain⟨g3,hg3⟩:∃g,g=w.heap.size:=⟨_,rfl⟩;rw[←hg3]at J3⊢;generalize w.alloc (.cells #[.int .i64 c0,.int .i64 c1,.int .i64 c2,.int .i64 c3,.int .i64 c4,.int .i64 c5,.int .i64 c6,.int .i64 c7,.slice LA ln lc] 49)=W0 at J3 hB⊢;clear hg3;have HJ:=Lib.hid J3;have HB:=Lib.hid hB;clear J3 hB;go_wp2;go_loopw [7] (fun i wr=>∃k:Nat,k≤ln∧i=.int .i64 k∧Hid ((sl.take k).all (wR old now)=true)∧Ext W0 wr) (fun i _=>ln-(intOf i).toNat)
 case atStart=>exact⟨0,Nat.zero_le _,rfl,Lib.hid rfl,Ext.refl _⟩
 case round =>
  rename World=>Wo
  obtain⟨k,hk,rfl,HT,hx⟩:=hrel;have o8:Wo.cell? ⟨g3,8,none⟩=some (.slice LA ln lc):=(HJ.out.ext hx).cell 8;by_cases hkn:k<ln
  ·skip;have hkz:(k:Int)<(ln:Int):=by omega
   have hBw:=Ext.trans HB.out hx;obtain⟨bl,ol,hz,hA,_,hc⟩:=(HL.out.below hBw).at_ EY hkn;subst hA;have hat:=U6 (wR old now) sl k hz;obtain⟨q,hq,hsp⟩:=HG.out sl[k] (List.getElem_mem hz);have Ud:Hid (wR old now sl[k]=false→sl.all (wR old now)=false):=Lib.hid (all_false hz);generalize sl[k]=s at hc hat hsp Ud;obtain⟨sp,sf,st⟩:=s;dsimp only at hsp;subst hsp;have d0:Wo.cell? ⟨bl,ol+k*3,none⟩=some (.int .i64 (q:Int)):=hc 0 (by omega);have d1:Wo.cell? ⟨bl,ol+k*3+1,none⟩=some (.int .i64 sf):=hc 1 (by omega);have d2:Wo.cell? ⟨bl,ol+k*3+2,none⟩=some (.int .i64 st):=hc 2 (by omega);have hqn:q<on:=by have:=HOL.out;omega
   have hqz:(q:Int)<(on:Int):=by omega
   obtain⟨bo,oo,Zq,hA,_,hco⟩:=(HO.out.below hBw).at_ bg hqn;subst hA;have hcv:wR old now ⟨(q:Int),sf,st⟩=now.any (fH old[q].sat old[q].dh sf st):=by unfold wR;rw[Int.toNat_natCast,List.getElem?_eq_getElem Zq]
   rw[hcv]at hat Ud;clear hcv;have p0:Wo.cell? ⟨bo,oo+q*6,none⟩=some (.int .i64 old[q].sat):=hco 0 (by omega);have p1:Wo.cell? ⟨bo,oo+q*6+1,none⟩=some (.int .i64 old[q].dh):=hco 1 (by omega);generalize old[q].sat=ps at p0 hat Ud;generalize old[q].dh=pt at p1 hat Ud;have HAT:=Lib.hid hat;have Qp:=Lib.hid p0;have wV:=Lib.hid p1;have HX:=Lib.hid hx;clear hc hco hz Zq hat hBw hx hq p0 p1;go_upto_region 5 with (fail);have J8:aG (Wo.alloc (.cells #[.int .i64 (q:Int),.int .i64 sf,.int .i64 st] 103)) Wo.heap.size 103 #[.int .i64 (q:Int),.int .i64 sf,.int .i64 st]:=aG.new _ _ _;have hy:Ext Wo (Wo.alloc (.cells #[.int .i64 (q:Int),.int .i64 sf,.int .i64 st] 103)):=aj (Below.refl _ _) _;obtain⟨g8,hg8⟩:∃g,g=Wo.heap.size:=⟨_,rfl⟩;rw[←hg8]at J8⊢;generalize Wo.alloc (.cells #[.int .i64 (q:Int),.int .i64 sf,.int .i64 st] 103)=W1 at J8 hy⊢;clear hg8 d0 d1 d2 o8;have uP:=Lib.hid J8;have HY:=Lib.hid hy;clear J8 hy;go_wp2;go_loopw [9,10] (fun z i wr=>∃j:Nat,j≤nn∧z=.bool ((now.take j).any (fH ps pt sf st))∧i=.int .i64 j∧Ext W1 wr) (fun _ i _=>nn-(intOf i).toNat)
   case atStart=>exact⟨0,Nat.zero_le _,rfl,rfl,Ext.refl _⟩
   case round =>
    obtain⟨j,hj,rfl,rfl,hz⟩:=hrel;by_cases hjn:j<nn
    ·skip;have hjz:(j:Int)<(nn:Int):=by omega
     have hxy:=Ext.trans HY.out hz;obtain⟨bn,ob,hzn,hA,_,hcn⟩:=(HN.out.below (Ext.trans HB.out (Ext.trans HX.out hxy))).at_ bg hjn;subst hA;have hat:=Jr (fH ps pt sf st) now j hzn;generalize now[j]=y at hcn hat;obtain⟨y0,y1,⟨y2,y3⟩,⟨y4,y5⟩⟩:=y;have f0:wr.cell? ⟨bn,ob+j*6,none⟩=some (.int .i64 y0):=hcn 0 (by omega);have f1:wr.cell? ⟨bn,ob+j*6+1,none⟩=some (.int .i64 y1):=hcn 1 (by omega);have f2:wr.cell? ⟨bn,ob+j*6+2,none⟩=some (.int .i64 y2):=hcn 2 (by omega);have f3:wr.cell? ⟨bn,ob+j*6+3,none⟩=some (.int .i64 y3):=hcn 3 (by omega);have p0:=ah hxy Qp.out;have p1:=ah hxy wV.out;have b0:wr.cell? ⟨g8,0,none⟩=some (.int .i64 (q:Int)):=(uP.out.ext hz).cell 0;have b1:wr.cell? ⟨g8,1,none⟩=some (.int .i64 sf):=(uP.out.ext hz).cell 1;have b2:wr.cell? ⟨g8,2,none⟩=some (.int .i64 st):=(uP.out.ext hz).cell 2;have hcv:fH ps pt sf st ⟨y0,y1,⟨y2,y3⟩,⟨y4,y5⟩⟩=((y0==ps)&&((y1==pt)&&(decide (y2≤sf)&&decide (st≤y3)))):=rfl;rw[hcv]at hat;generalize (now.take j).any (fH ps pt sf st)=th at hat⊢;have uw:=Lib.hid hat;have HZ:=Lib.hid hz;clear hcn hzn hat hcv hxy hz;go_upto_region 9 with (fail);cases th with
     |true =>
      have yB:Hid ((now.take (j+1)).any (fH ps pt sf st)=true):=Lib.hid (by rw[uw.out];rfl);go_quiet (fail)
      go_wp2;go_roundw
      case rel=>exact⟨j+1,by omega,by rw[yB.out],by go_num,Ext.trans HZ.out (below_drewN (Below.refl _ _) _)⟩
      case measure=>simp[intOf];omega
     |false =>
      by_cases a1:y0=ps
      ·skip;have e1:(y0==ps)=true:=by simp[a1]
       by_cases a2:y1=pt
       ·skip;have e2:(y1==pt)=true:=by simp[a2]
        by_cases a3:y2≤sf
        ·skip;by_cases a4:st≤y3
         ·skip;have a4b:decide (st≤y3)=true:=decide_eq_true a4;have yB:Hid ((now.take (j+1)).any (fH ps pt sf st)=true):=Lib.hid (by rw[uw.out];simp[e1,e2,a3,a4]);go_quiet (fail)
          go_wp2;go_roundw
          case rel=>exact⟨j+1,by omega,by rw[yB.out],by go_num,Ext.trans HZ.out (below_drewN (Below.refl _ _) _)⟩
          case measure=>simp[intOf];omega
         ·skip;have a4b:decide (st≤y3)=false:=decide_eq_false a4;have yB:Hid ((now.take (j+1)).any (fH ps pt sf st)=false):=Lib.hid (by rw[uw.out];simp[e1,e2,a3,a4]);go_quiet (fail)
          go_wp2;go_roundw
          case rel=>exact⟨j+1,by omega,by rw[yB.out],by go_num,Ext.trans HZ.out (below_drewN (Below.refl _ _) _)⟩
          case measure=>simp[intOf];omega
        ·skip;have a3b:decide (y2≤sf)=false:=decide_eq_false a3;have yB:Hid ((now.take (j+1)).any (fH ps pt sf st)=false):=Lib.hid (by rw[uw.out];simp[e1,e2,a3]);go_quiet (fail)
         go_wp2;go_roundw
         case rel=>exact⟨j+1,by omega,by rw[yB.out],by go_num,Ext.trans HZ.out (below_drewN (Below.refl _ _) _)⟩
         case measure=>simp[intOf];omega
       ·skip;have e2:(y1==pt)=false:=by simp[a2]
        have yB:Hid ((now.take (j+1)).any (fH ps pt sf st)=false):=Lib.hid (by rw[uw.out];simp[e1,e2]);go_quiet (fail)
        go_wp2;go_roundw
        case rel=>exact⟨j+1,by omega,by rw[yB.out],by go_num,Ext.trans HZ.out (below_drewN (Below.refl _ _) _)⟩
        case measure=>simp[intOf];omega
      ·skip;have e1:(y0==ps)=false:=by simp[a1]
       have yB:Hid ((now.take (j+1)).any (fH ps pt sf st)=false):=Lib.hid (by rw[uw.out];simp[e1]);go_quiet (fail)
       go_wp2;go_roundw
       case rel=>exact⟨j+1,by omega,by rw[yB.out],by go_num,Ext.trans HZ.out (below_drewN (Below.refl _ _) _)⟩
       case measure=>simp[intOf];omega
    ·skip;have hjz:¬(j:Int)<(nn:Int):=by omega
     rw[show now.take j=now from List.take_of_length_le (by have:=X7.out;omega)];have HXZ:=Lib.hid (Ext.trans HX.out (Ext.trans HY.out hz));clear hz;obtain⟨q2,hq2⟩:∃b,b=now.any (fH ps pt sf st):=⟨_,rfl⟩;rw[←hq2]at HAT Ud⊢;clear hq2;cases q2 with
     |true =>
      have yB:Hid ((sl.take (k+1)).all (wR old now)=true):=Lib.hid (by rw[HAT.out,HT.out];rfl);go_wp2;go_roundw
      case rel=>exact⟨k+1,by omega,by go_num,yB,HXZ.out⟩
      case measure=>simp[intOf];omega
     |false =>
      have HRF:Hid (R=false):=Lib.hid (HR.out.trans (Ud.out rfl));go_wp2;go_ret;exact⟨by rw[HRF.out];rfl,Ext.trans HB.out HXZ.out⟩
  ·skip;have hkz:¬(k:Int)<(ln:Int):=by omega
   have CY:Hid (R=true):=Lib.hid (by rw[HR.out,←HT.out,List.take_of_length_le (by have:=HLL.out;omega)]);have DY:=Lib.hid (Ext.trans HB.out hx);clear hx;go_wp2;go_ret;exact⟨by rw[CY.out];rfl,DY.out⟩
end Go.Proofs.YtjidhhfabfnhnaaGreat
namespace Go.Proofs.YtjidhhfabfnhnaaGreat
open Go.RowKit
end Go.Proofs.YtjidhhfabfnhnaaGreat
namespace Go.Proofs.YtjidhhfabfnhnaaGreat
open Go.RowKit
def Gi (f:Int→iM) (a:Int) (m:Nat):Bool:=decide (∀i:Nat,i<m→f (a+i)=f a)
theorem Et (f:Int→iM) (a:Int):Gi f a 0=true:=decide_eq_true (fun i h=>by omega)
theorem Eu (f:Int→iM) (a:Int) (m:Nat) {t:Int} (ht:t=a+m):Gi f a (m+1)=(Gi f a m&&decide (f t=f a)):=by
 subst ht;unfold Gi;by_cases h1:∀i:Nat,i<m→f (a+i)=f a
 ·by_cases h2:f (a+(m:Nat))=f a
  ·rw[decide_eq_true h1,decide_eq_true h2];exact decide_eq_true (fun i hi=>by
    by_cases e:i=m
    ·rw[e];exact h2
    ·exact h1 i (by omega))
  ·rw[decide_eq_false h2,Bool.and_false];exact decide_eq_false (fun h=>h2 (h m (by omega)))
 ·rw[decide_eq_false h1,Bool.false_and];exact decide_eq_false (fun h=>h1 fun i hi=>h i (by omega))
theorem U7 {f:Int→iM} {a b:Int} {m:Nat} (h:m=(b-a).toNat):Gi f a m=wS f a b:=by rw[h];rfl
theorem Oe (o:iM) (a b look:Int) (w:World):Calls Tryz.prog 19 #[.agg (aN o).toArray,.agg #[.int .i64 a,.int .i64 b],.int .i64 look] w (IC (iC o a b look) w):=by
 obtain⟨p,f,lo,hi,no,tu,sl⟩:=o;exact yK p f lo hi no tu sl a b look w
theorem Gj {r:Option (List Int×List Int)} {w w':World} {e:Ending} (h:IC r w e w'):∃A1 m1 d1 A2 m2 d2 er,e=.returned (.tuple #[.agg #[.slice A1 m1 d1,.slice A2 m2 d2],.int .i64 er]) ∧
  ((er=80∧r=none)∨(er=0∧∃S C,r=some (S,C)∧RA bW 1 w' w'.heap.size A1 m1 d1 S∧RA bW 1 w' w'.heap.size A2 m2 d2 C))∧Ext w w':=by
 cases r with
 |none=>exact⟨_,_,_,_,_,_,_,h.1,.inl ⟨rfl,rfl⟩,h.2⟩
 |some SC =>
  obtain⟨S,C⟩:=SC;obtain⟨⟨v,he,hst⟩,hx⟩:=h;obtain⟨gs,gc,c,rfl,r1,r2,_⟩:=hst.it;exact⟨_,_,_,_,_,_,_,he,.inr ⟨rfl,S,C,rfl,zu r1 (by omega),zu r2 (by omega)⟩,hx⟩
def MovF (o1 c1:Bool) (r1 r2:Option (List Int×List Int)) (o2 c2 mq:Bool):Prop:=o1=true→c1=true→∀S1 C1 S2 C2,r1=some (S1,C1)→r2=some (S2,C2)→mq=!(o2&&(decide (S1=S2)&&decide (C1=C2))&&c2)
def NewF (o1 c1:Bool) (r1:Option (List Int×List Int)) (nw mq:Bool):Prop:=o1=true→c1=true→∀r,r1=some r→nw=false→mq=false
structure OptF (S:List St) (l:List fE) (a b:List bP) (x y:Int) (o:wF) (s:St):Prop where
 mem:s∈S
 id:s.id=o.sat
 last:j_ o.sat zS S=s
 bd:0≤o.a∧o.a<o.b∧o.b≤1000000∧o.b-o.a≤5
 slots:∀u∈o.slots,∃q:Nat,q<a.length∧u.p=(q:Int)
 moved:MovF (wS (fK s l x) o.a o.b) (lN o a a) (iC (fK s l x o.a) o.a o.b o.look) (iC (fK s l y o.a) o.a o.b o.look) (wS (fK s l y) o.a o.b) (lN o a b) (sN S l a a b x y o)
 news:NewF (wS (fK s l x) o.a o.b) (lN o a a) (iC (fK s l x o.a) o.a o.b o.look) (l.any (kK s.id x y)) (sN S l a a b x y o)
theorem Qe {S:List St} {ST:List iD} {l:List fE} {sp:iO} {a b:List bP} {x y:Int} {o:wF} (hS:eH S=true) (hxy:x≤y) (ha:bU S ST l sp x=some a) (hb:bU S ST l sp y=some b) (h:∃s∈S,lV s.id a o):∃s,OptF S l a b x y o s:=by
 obtain⟨s,hs,hg⟩:=h;have hS2:dH dQ (·.id) none S=true:=by
  unfold eH at hS;simp only[Bool.and_eq_true]at hS;exact hS.2
 have h1:s.id=o.sat:=hg.1.symm;obtain⟨h2,h3⟩:=B_ (z:=zS) hS2 hs;rw[h1]at h2 h3;refine⟨s,hs,h1,h2,⟨hg.2.1,hg.2.2.1,hg.2.2.2.1,hg.2.2.2.2.1⟩,fun u hu=>?_,fun k1 k2 S1 C1 S2 C2 k3 k4=>Jq h3 hg k1 k2 k3 k4,fun k1 k2 r k3 k4=>MZ hxy ha hb h3 hg k1 k2 k3 k4⟩;obtain⟨_,q,hq,k2,_⟩:=hg.2.2.2.2.2 u hu;exact⟨q,hq,k2⟩
theorem U8 {S:List St} {a:List bP} {opts:List iY} (h:∀o∈opts,∃s∈S,lV s.id a o.o):opts.any (fun o=>nJ o.o.a o.o.b)=false:=by
 rw[List.any_eq_false];intro o ho;obtain⟨s,_,h1,h2,h3,h4,h5,_⟩:=h o ho;unfold nJ;simp;omega
theorem U9 {S:List St} {ST:List iD} {l:List fE} {opts:List iY} {sp:iO} {x y:Int} {a b:List bP} (ha:bU S ST l sp x=some a) (hb:bU S ST l sp y=some b) (h:∀o∈opts,∃s∈S,lV s.id a o.o) (hl:opts.length≤64) :
  C_ S ST l opts a sp x y=some (jR (sN S l a a b x y) 0 opts):=by
 unfold C_;rw[ha,hb];dsimp only;rw[if_pos ⟨hl,U8 h,Jm ha⟩]
theorem Js {S:List St} {ST:List iD} {l:List fE} {opts:List iY} {P:List bP} {sp:iO} {x y:Int} (h:bU S ST l sp x=none∨bU S ST l sp y=none):C_ S ST l opts P sp x y=none:=by
 unfold C_;rcases h with h | h
 ·rw[h]
 ·rw[h];cases bU S ST l sp x<;>rfl
def afE (r:Option (List Int)):Int:=match r with
 |none=>360
 |some _=>0
theorem Yd {r:Option (List Int)} {w w':World} {e:Ending} (h:BD r w e w'):∃A n c,e=.returned (.tuple #[.slice A n c,.int .i64 (afE r)])∧RA bW 1 w' w'.heap.size A n c (r.getD [])∧Ext w w':=by
 cases r with
 |none=>exact⟨none,0,0,h.1,RA.d_ (base:=0) (e:=0) (World.ownsRow_nil _ _ _ _) rfl (by omega),h.2⟩
 |some l =>
  obtain⟨⟨v,rfl,hown⟩,hx⟩:=h;obtain⟨A,c,rfl,_,_⟩:=aX hown;refine⟨A,_,c,rfl,RA.d_ hown rfl ?_,hx⟩;rcases hown.2 with ⟨_,h0⟩ | ⟨g,cap,cur,hv,_,_,hc,hm,_⟩
  ·rw[h0];omega
  ·unfold maxLen at hm;omega
theorem Qg {S:List St} {R:Option (List bP)} {w w':World} {e:Ending} (h:BR S R w e w') (hS:S.length≤2) (hR:∀p,R=some p→p.length≤64) :
  ∃OA on oc opts PA pn pc P,e=.returned (.tuple #[.slice OA on oc,.slice PA pn pc])∧RA dX 9 w' w'.heap.size OA on oc opts∧(∀o∈opts,RA dR 3 w' w'.heap.size o.la o.ln o.lc o.o.slots)∧RA ak 6 w' w'.heap.size PA pn pc P∧opts.length≤10 ∧
   (∀o∈opts,∃s∈S,lV s.id P o.o)∧(∀p,R=some p→P=p)∧Ext w w':=by
 obtain⟨vO,opts,vP,P,rfl,hO,hol,hg,h1,h2,hP,hx⟩:=h;obtain⟨OA,oc,rfl,_,_⟩:=aX hO.1;obtain⟨PA,pc,rfl,_,_⟩:=aX hP;have hpl:P.length≤64:=by
  cases R with
  |none=>rw[(h1 rfl).2];simp
  |some p=>rw[h2 p rfl];exact hR p rfl
 refine⟨OA,_,oc,opts,PA,_,pc,P,rfl,RA.d_ hO.1 rfl (by omega),fun o ho=>?_,RA.d_ hP rfl (by omega),by omega,hg,h2,hx⟩;have h3:=(hO.2 o ho).2;have h4:=(hO.2 o ho).1;unfold uj at h3;rw[←h4]at h3;refine RA.d_ h3 h4.symm ?_;rcases h3.2 with ⟨_,h0⟩ | ⟨g,cap,cur,hv,_,_,hc,hm,_⟩
 ·omega
 ·unfold maxLen at hm;omega
end Go.Proofs.YtjidhhfabfnhnaaGreat
