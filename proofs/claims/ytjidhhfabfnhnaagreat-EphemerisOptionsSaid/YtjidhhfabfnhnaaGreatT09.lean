/- The example and a minute in a spell, of the laws (printed by contact_c10.py). -/
import Derived.Test.YtjidhhfabfnhnaaGreatT08
import Derived.Test.YtjidhhfabfnhnaaGreatT01
import Derived.Test.YtjidhhfabfnhnaaGreatT05
import Derived.Test.YtjidhhfabfnhnaaGreatT04
namespace Go.Proofs.YtjidhhfabfnhnaaGreat
open Go.RowKit
structure xu where
 p:Int
 fr:Int
 tt:Int
def dR (s:xu):List Value:=[.int .i64 s.p,.int .i64 s.fr,.int .i64 s.tt]
theorem EY (s:xu):(dR s).length=3:=rfl
theorem RD:(Tryz.prog.info? 103).map (·.size)=some 3:=by kernel_rfl
theorem Hf (p:St→Bool) (K:Nat) (caps:Array Value) (eg:∀args w,(callFunc K args).run Tryz.prog w=.ok (.enter K args) w) (l:List St) (A:Option Addr) (n c:Nat) (w:World) (h:RA aC 21 w w.heap.size A n c l)
  (hp:∀(x:St) (W:World),Ext w W→Calls Tryz.prog K (#[.agg (aC x).toArray]++caps) W fun e w'=>e=.returned (.bool (p x))∧Ext W w') :
  Calls Tryz.prog 98 #[.slice A n c,.func (.func K) #[] caps] w fun e w'=>e=.returned (.int .i64 (gK p l 0))∧Ext w w':=by
 have HR:=Lib.hid h;have hle:=h.le;have HL:=Lib.hid h.len;have HP:=Lib.hid hp;clear h hp;go_enter Tryz.func98,Tryz.ntmps98;go_wp2;go_loopw [8] (fun i wr=>∃k:Nat,k≤n∧i=.int .i64 k∧Hid (gK p l 0=gK p (l.drop k) k)∧Ext w wr) (fun i _=>n-(intOf i).toNat)
 case atStart=>exact⟨0,Nat.zero_le _,rfl,rfl,Below.refl _ _⟩
 case round =>
  obtain⟨k,hk,rfl,H,hB⟩:=hrel;by_cases hlt:k<n
  ·obtain⟨b,o,hz,hA,hbl,hc⟩:=RA.range gJ (HR.out.below hB) hlt;have hst:=l7 p l k hz;rw[←H.out]at hst;generalize l[k]=x at hst hc;have hv:=HP.out x wr hB;obtain⟨X,hX⟩:∃X,(aC x).toArray=X:=⟨_,rfl⟩;rw[hX]at hv;generalize p x=q at hst hv;have HX:=Lib.hid hX;have HV:=Lib.hid hv;have HS:=Lib.hid hst;have qN:=Lib.hid hc;clear hX hv hst hc;subst hA;go_wp2_with (refine ay rfl _ _ rfl b (o+k*21) rfl X (aC x) HX.out _ qN.out Tryz.underlying53 rfl aQ ?_);refine HV.out.mono ?_;rintro e w2 ⟨rfl,hb2⟩;have hB2:Ext w w2:=Ext.trans hB hb2;cases q
   ·go_wp2;go_roundw
    case rel=>exact⟨k+1,by omega,by go_num,HS.out.trans (by simp),hB2⟩
    case measure=>simp[intOf];omega
   ·go_wp2;go_ret;exact⟨by rw[HS.out];simp,hB2⟩
  ·go_wp2;go_ret;exact⟨by rw[H.out,List.drop_of_length_le (by rw[HL.out];omega)];rfl,hB⟩
theorem Hg (p:St→Bool) (K:Nat) (caps:Array Value) (eg:∀args w,(callFunc K args).run Tryz.prog w=.ok (.enter K args) w) (l:List St) (A:Option Addr) (n c:Nat) (w:World) (h:RA aC 21 w w.heap.size A n c l)
  (hp:∀(x:St) (W:World),Ext w W→Calls Tryz.prog K (#[.agg (aC x).toArray]++caps) W fun e w'=>e=.returned (.bool (p x))∧Ext W w') :
  Calls Tryz.prog 69 #[.slice A n c,.func (.func K) #[] caps] w fun e w'=>e=.returned (.bool (l.any p))∧Ext w w':=by
 have hf:=Hf p K caps eg l A n c w h hp;have hbb:l.any p=decide (0≤gK p l 0):=by
  rw[Bool.eq_iff_iff,decide_eq_true_iff,oV _ _ 0 (by omega)]
 rw[hbb];generalize gK p l 0=r at hf;have HF:=Lib.hid hf;clear hf hbb h hp;go_enter Tryz.func69,Tryz.ntmps69;go_wp2_with (go_at_call 98;refine HF.out.mono ?_;rintro e w' ⟨rfl,hb'⟩);go_ret;exact⟨rfl,(by repeat (first | exact Below.refl _ _ | assumption | refine Below.drew ?_ | refine below_drewN ?_ _ | refine aj ?_ _ | refine Below.setCell ?_ (by first | (simp;done) | omega | (simp;omega)) _ | refine aA ?_ (by assumption)))⟩
theorem Ox (p:fE→Bool) (K:Nat) (caps:Array Value) (eg:∀args w,(callFunc K args).run Tryz.prog w=.ok (.enter K args) w) (l:List fE) (A:Option Addr) (n c:Nat) (w:World) (h:RA aI 10 w w.heap.size A n c l)
  (hp:∀(x:fE) (W:World),Ext w W→Calls Tryz.prog K (#[.agg (aI x).toArray]++caps) W fun e w'=>e=.returned (.bool (p x))∧Ext W w') :
  Calls Tryz.prog 150 #[.slice A n c,.func (.func K) #[] caps] w fun e w'=>e=.returned (.int .i64 (gK p l 0))∧Ext w w':=by
 have HR:=Lib.hid h;have hle:=h.le;have HL:=Lib.hid h.len;have HP:=Lib.hid hp;clear h hp;go_enter Tryz.func150,Tryz.ntmps150;go_wp2;go_loopw [8] (fun i wr=>∃k:Nat,k≤n∧i=.int .i64 k∧Hid (gK p l 0=gK p (l.drop k) k)∧Ext w wr) (fun i _=>n-(intOf i).toNat)
 case atStart=>exact⟨0,Nat.zero_le _,rfl,rfl,Below.refl _ _⟩
 case round =>
  obtain⟨k,hk,rfl,H,hB⟩:=hrel;by_cases hlt:k<n
  ·obtain⟨b,o,hz,hA,hbl,hc⟩:=RA.range iR (HR.out.below hB) hlt;have hst:=l7 p l k hz;rw[←H.out]at hst;generalize l[k]=x at hst hc;have hv:=HP.out x wr hB;obtain⟨X,hX⟩:∃X,(aI x).toArray=X:=⟨_,rfl⟩;rw[hX]at hv;generalize p x=q at hst hv;have HX:=Lib.hid hX;have HV:=Lib.hid hv;have HS:=Lib.hid hst;have qN:=Lib.hid hc;clear hX hv hst hc;subst hA;go_wp2_with (refine ay rfl _ _ rfl b (o+k*10) rfl X (aI x) HX.out _ qN.out Tryz.underlying66 rfl dF ?_);refine HV.out.mono ?_;rintro e w2 ⟨rfl,hb2⟩;have hB2:Ext w w2:=Ext.trans hB hb2;cases q
   ·go_wp2;go_roundw
    case rel=>exact⟨k+1,by omega,by go_num,HS.out.trans (by simp),hB2⟩
    case measure=>simp[intOf];omega
   ·go_wp2;go_ret;exact⟨by rw[HS.out];simp,hB2⟩
  ·go_wp2;go_ret;exact⟨by rw[H.out,List.drop_of_length_le (by rw[HL.out];omega)];rfl,hB⟩
theorem DJ (p:bP→Bool) (K:Nat) (caps:Array Value) (eg:∀args w,(callFunc K args).run Tryz.prog w=.ok (.enter K args) w) (l:List bP) (A:Option Addr) (n c:Nat) (w:World) (h:RA ak 6 w w.heap.size A n c l)
  (hp:∀(x:bP) (W:World),Ext w W→Calls Tryz.prog K (#[.agg (ak x).toArray]++caps) W fun e w'=>e=.returned (.bool (p x))∧Ext W w') :
  Calls Tryz.prog 124 #[.slice A n c,.func (.func K) #[] caps] w fun e w'=>e=.returned (.int .i64 (gK p l 0))∧Ext w w':=by
 have HR:=Lib.hid h;have hle:=h.le;have HL:=Lib.hid h.len;have HP:=Lib.hid hp;clear h hp;go_enter Tryz.func124,Tryz.ntmps124;go_wp2;go_loopw [8] (fun i wr=>∃k:Nat,k≤n∧i=.int .i64 k∧Hid (gK p l 0=gK p (l.drop k) k)∧Ext w wr) (fun i _=>n-(intOf i).toNat)
 case atStart=>exact⟨0,Nat.zero_le _,rfl,rfl,Below.refl _ _⟩
 case round =>
  obtain⟨k,hk,rfl,H,hB⟩:=hrel;by_cases hlt:k<n
  ·obtain⟨b,o,hz,hA,hbl,hc⟩:=RA.range bg (HR.out.below hB) hlt;have hst:=l7 p l k hz;rw[←H.out]at hst;generalize l[k]=x at hst hc;have hv:=HP.out x wr hB;obtain⟨X,hX⟩:∃X,(ak x).toArray=X:=⟨_,rfl⟩;rw[hX]at hv;generalize p x=q at hst hv;have HX:=Lib.hid hX;have HV:=Lib.hid hv;have HS:=Lib.hid hst;have qN:=Lib.hid hc;clear hX hv hst hc;subst hA;go_wp2_with (refine ay rfl _ _ rfl b (o+k*6) rfl X (ak x) HX.out _ qN.out Tryz.underlying75 rfl bV ?_);refine HV.out.mono ?_;rintro e w2 ⟨rfl,hb2⟩;have hB2:Ext w w2:=Ext.trans hB hb2;cases q
   ·go_wp2;go_roundw
    case rel=>exact⟨k+1,by omega,by go_num,HS.out.trans (by simp),hB2⟩
    case measure=>simp[intOf];omega
   ·go_wp2;go_ret;exact⟨by rw[HS.out];simp,hB2⟩
  ·go_wp2;go_ret;exact⟨by rw[H.out,List.drop_of_length_le (by rw[HL.out];omega)];rfl,hB⟩
theorem EZ (p:bP→Bool) (K:Nat) (caps:Array Value) (eg:∀args w,(callFunc K args).run Tryz.prog w=.ok (.enter K args) w) (l:List bP) (A:Option Addr) (n c:Nat) (w:World) (h:RA ak 6 w w.heap.size A n c l)
  (hp:∀(x:bP) (W:World),Ext w W→Calls Tryz.prog K (#[.agg (ak x).toArray]++caps) W fun e w'=>e=.returned (.bool (p x))∧Ext W w') :
  Calls Tryz.prog 64 #[.slice A n c,.func (.func K) #[] caps] w fun e w'=>e=.returned (.bool (l.any p))∧Ext w w':=by
 have hf:=DJ p K caps eg l A n c w h hp;have hbb:l.any p=decide (0≤gK p l 0):=by
  rw[Bool.eq_iff_iff,decide_eq_true_iff,oV _ _ 0 (by omega)]
 rw[hbb];generalize gK p l 0=r at hf;have HF:=Lib.hid hf;clear hf hbb h hp;go_enter Tryz.func64,Tryz.ntmps64;go_wp2_with (go_at_call 124;refine HF.out.mono ?_;rintro e w' ⟨rfl,hb'⟩);go_ret;exact⟨rfl,(by repeat (first | exact Below.refl _ _ | assumption | refine Below.drew ?_ | refine below_drewN ?_ _ | refine aj ?_ _ | refine Below.setCell ?_ (by first | (simp;done) | omega | (simp;omega)) _ | refine aA ?_ (by assumption)))⟩
theorem Oy (p:xu→Bool) (K:Nat) (caps:Array Value) (eg:∀args w,(callFunc K args).run Tryz.prog w=.ok (.enter K args) w) (l:List xu) (A:Option Addr) (n c:Nat) (w:World) (h:RA dR 3 w w.heap.size A n c l)
  (hp:∀(x:xu) (W:World),Ext w W→Calls Tryz.prog K (#[.agg (dR x).toArray]++caps) W fun e w'=>e=.returned (.bool (p x))∧Ext W w') :
  Calls Tryz.prog 146 #[.slice A n c,.func (.func K) #[] caps] w fun e w'=>e=.returned (.int .i64 (gK p l 0))∧Ext w w':=by
 have HR:=Lib.hid h;have hle:=h.le;have HL:=Lib.hid h.len;have HP:=Lib.hid hp;clear h hp;go_enter Tryz.func146,Tryz.ntmps146;go_wp2;go_loopw [8] (fun i wr=>∃k:Nat,k≤n∧i=.int .i64 k∧Hid (gK p l 0=gK p (l.drop k) k)∧Ext w wr) (fun i _=>n-(intOf i).toNat)
 case atStart=>exact⟨0,Nat.zero_le _,rfl,rfl,Below.refl _ _⟩
 case round =>
  obtain⟨k,hk,rfl,H,hB⟩:=hrel;by_cases hlt:k<n
  ·obtain⟨b,o,hz,hA,hbl,hc⟩:=RA.range EY (HR.out.below hB) hlt;have hst:=l7 p l k hz;rw[←H.out]at hst;generalize l[k]=x at hst hc;have hv:=HP.out x wr hB;obtain⟨X,hX⟩:∃X,(dR x).toArray=X:=⟨_,rfl⟩;rw[hX]at hv;generalize p x=q at hst hv;have HX:=Lib.hid hX;have HV:=Lib.hid hv;have HS:=Lib.hid hst;have qN:=Lib.hid hc;clear hX hv hst hc;subst hA;go_wp2_with (refine ay rfl _ _ rfl b (o+k*3) rfl X (dR x) HX.out _ qN.out Tryz.underlying103 rfl RD ?_);refine HV.out.mono ?_;rintro e w2 ⟨rfl,hb2⟩;have hB2:Ext w w2:=Ext.trans hB hb2;cases q
   ·go_wp2;go_roundw
    case rel=>exact⟨k+1,by omega,by go_num,HS.out.trans (by simp),hB2⟩
    case measure=>simp[intOf];omega
   ·go_wp2;go_ret;exact⟨by rw[HS.out];simp,hB2⟩
  ·go_wp2;go_ret;exact⟨by rw[H.out,List.drop_of_length_le (by rw[HL.out];omega)];rfl,hB⟩
theorem E8 (p:xu→Bool) (K:Nat) (caps:Array Value) (eg:∀args w,(callFunc K args).run Tryz.prog w=.ok (.enter K args) w) (l:List xu) (A:Option Addr) (n c:Nat) (w:World) (h:RA dR 3 w w.heap.size A n c l)
  (hp:∀(x:xu) (W:World),Ext w W→Calls Tryz.prog K (#[.agg (dR x).toArray]++caps) W fun e w'=>e=.returned (.bool (p x))∧Ext W w') :
  Calls Tryz.prog 102 #[.slice A n c,.func (.func K) #[] caps] w fun e w'=>e=.returned (.bool (l.any p))∧Ext w w':=by
 have hf:=Oy p K caps eg l A n c w h hp;have hbb:l.any p=decide (0≤gK p l 0):=by
  rw[Bool.eq_iff_iff,decide_eq_true_iff,oV _ _ 0 (by omega)]
 rw[hbb];generalize gK p l 0=r at hf;have HF:=Lib.hid hf;clear hf hbb h hp;go_enter Tryz.func102,Tryz.ntmps102;go_wp2_with (go_at_call 146;refine HF.out.mono ?_;rintro e w' ⟨rfl,hb'⟩);go_ret;exact⟨rfl,(by repeat (first | exact Below.refl _ _ | assumption | refine Below.drew ?_ | refine below_drewN ?_ _ | refine aj ?_ _ | refine Below.setCell ?_ (by first | (simp;done) | omega | (simp;omega)) _ | refine aA ?_ (by assumption)))⟩
end Go.Proofs.YtjidhhfabfnhnaaGreat
namespace Go.Proofs.YtjidhhfabfnhnaaGreat
open Go.RowKit
theorem zX (ids:List Int) (l:List fE) (k:Nat) (h:k<l.length) :
  jV ids ((aV l k).map (·.kn)) (l.drop k)=(decide (l[k].sat∈ids)&&yE l[k]&&(match (aV l k).map (·.kn)with | none=>true | some y=>decide (y≤l[k].kn))&&jV ids ((aV l (k+1)).map (·.kn)) (l.drop (k+1))):=by
 have hp:aV l (k+1)=some l[k]:=by simp[aV,h]
 rw[List.drop_eq_getElem_cons h,hp];cases aV l k<;>rfl
theorem Oz (x:St) (gu:Nat) (us:Int) (X:Array Value) (w:World) (ku:aG w gu 66 X) (x0:X[0]?=some (.int .i64 us)) :
  Calls Tryz.prog 70 #[.agg (aC x).toArray,.pointer (some ⟨gu,0,none⟩)] w fun e w'=>e=.returned (.bool (x.id==us))∧Ext w w':=by
 obtain⟨P,hP⟩:∃P,P=(aC x).toArray:=⟨_,rfl⟩;have p0:P[0]?=some (.int .i64 x.id):=by rw[hP];rfl
 rw[←hP];clear hP;have hx:Ext w (w.alloc (.cells P 53)):=aj (Below.refl _ _) _;have J:=aG.new w 53 P;have KU:=ku.ext hx;have HX:=Lib.hid hx;clear hx;go_enter Tryz.func70,Tryz.ntmps70;go_upto_region 1 with (fail);generalize w.alloc _=W at J KU HX⊢;generalize w.heap.size=g at J⊢;have u0:W.cell? ⟨g,0,none⟩=some (.int .i64 x.id):=by rw[J.cell];exact p0
 have u1:W.cell? ⟨gu,0,none⟩=some (.int .i64 us):=by rw[KU.cell];exact x0
 clear p0 x0 J KU;go_wp2;go_ret;exact⟨rfl,HX.out⟩
theorem RF (l:List St) (u:Int):l.any (fun x=>x.id==u)=decide (u∈l.map (·.id)):=by
 rw[Bool.eq_iff_iff,List.any_eq_true,decide_eq_true_eq,List.mem_map];exact⟨fun⟨x,h,e⟩=>⟨x,h,by simpa using e⟩,fun⟨x,h,e⟩=>⟨x,h,by simpa using e⟩⟩
theorem ZW (o:iM) (w:World):Calls Tryz.prog 71 #[.agg (aN o).toArray] w fun e w'=>e=.returned (.bool (dw o))∧Ext w w':=by
 obtain⟨p,f,lo,hi,no,tu,sl⟩:=o;exact nS p f lo hi no tu sl w
set_option maxRecDepth 100000 in
set_option maxHeartbeats 4000000 in
theorem qm (sats:List St) (l:List fE) (SA A:Option Addr) (sn sc n c:Nat) (w:World) (hS:RA aC 21 w w.heap.size SA sn sc sats) (hU:RA aI 10 w w.heap.size A n c l) :
  Calls Tryz.prog 24 #[.slice SA sn sc,.slice A n c] w fun e w'=>e=.returned (.bool (fV sats l))∧Ext w w':=by
 have yR:=Lib.hid hS;have Ny:=Lib.hid hU;have hle:=hU.le;have uz:=Lib.hid hU.len;obtain⟨ids,JZ⟩:∃ids,ids=sats.map (·.id):=⟨_,rfl⟩;obtain⟨V,hV⟩:∃V,V=fV sats l:=⟨_,rfl⟩;obtain⟨Q,hQ⟩:∃Q,Q=jV ids none l:=⟨_,rfl⟩;rw[←hV];have HVV:Hid (V=(Q&&decide (n≤24)&&eH sats)):=Lib.hid (by rw[hV,hQ,JZ,fV,hU.len]);have ZX:=Lib.hid JZ;have Yx:Hid (Q=jV ids ((aV l 0).map (·.kn)) (l.drop 0)):=Lib.hid (by rw[hQ];simp[aV]);clear hS hU JZ hV hQ;go_enter Tryz.func24,Tryz.ntmps24;go_wp2;go_loopw [10] (fun i wr=>∃k:Nat,k≤n∧i=.int .i64 k∧Hid (Q=jV ids ((aV l k).map (·.kn)) (l.drop k))∧Ext w wr) (fun i _=>n-(intOf i).toNat)
 case atStart=>exact⟨0,Nat.zero_le _,rfl,Yx,Ext.refl _⟩
 case round =>
  clear Yx;obtain⟨k,hk,rfl,HQK,nC⟩:=hrel;by_cases hkn:k<n
  ·obtain⟨b,o,hz,hA,hbl,hcell⟩:=(aB Ny.out nC).at_ iR hkn;obtain⟨b',o',hz',hA',uO,hc⟩:=RA.range iR (aB Ny.out nC) hkn;obtain⟨rfl,rfl⟩:b'=b∧o'=o:=by rw[hA]at hA';injection hA' with hA';injection hA' with h1 h2;exact⟨h1.symm,h2.symm⟩
   have hst:=zX ids l k hz;rw[←HQK.out]at hst;have RG:(aV l (k+1)).map (·.kn)=some l[k].kn:=by simp[aV,hz]
   generalize hu:l[k]=u at hst hc RG;have huo:=Nv u;have hov:=ZW u.eY;obtain⟨X,hX⟩:∃X,(aI u).toArray=X:=⟨_,rfl⟩;obtain⟨tH,hX1⟩:=oZ u X hX;have x0:X[0]?=some (.int .i64 u.sat):=by rw[←hX];rfl
   have x1:X[1]?=some (.int .i64 u.fr):=by rw[←hX];rfl
   have x2:X[2]?=some (.int .i64 u.kn):=by rw[←hX];rfl
   rw[hX]at huo;have iP:=Lib.hid hX;have qg:=Lib.hid tH;have kC:=Lib.hid hX1;have qN:=Lib.hid hc;have hkz:(k:Int)<(n:Int):=by omega
   subst hA';clear hX tH hX1 hc hbl hz' uO hA hu hcell;have KX:aG (wr.alloc (.cells X 66)) wr.heap.size 66 X:=aG.new _ _ _;have hx1:Ext wr (wr.alloc (.cells X 66)):=aj (Below.refl _ _) _;go_upto_region 4 with (first | (refine ay rfl _ _ rfl b' (o'+k*10) rfl X (aI u) iP.out _ qN.out Tryz.underlying66 rfl dF ?_) | (refine aS rfl 66 _ _ rfl _ X rfl rfl (by rw[qg.out];exact dF) (by rw[qg.out];rfl) kC.out ?_));generalize wr.heap.size=g6 at KX⊢;generalize wr.alloc (.cells X 66)=W2 at KX hx1⊢;have hx2:=Ext.trans nC hx1;have HKN_:Hid (Calls Tryz.prog 69 #[.slice SA sn sc,.func (.func 70) #[] #[.pointer (some ⟨g6,0,none⟩)]] W2 fun e w'=>e=.returned (.bool (decide (u.sat∈ids)))∧Ext W2 w'):=Lib.hid (by
    rw[ZX.out,←RF];exact Hg (fun x=>x.id==u.sat) 70 #[.pointer (some ⟨g6,0,none⟩)] (enters_of Tryz.func70 (by kernel_rfl) rfl) sats SA sn sc W2 (aB yR.out hx2) (fun x W hx=>Oz x g6 u.sat X W (KX.ext hx) x0))
   have HK:=Lib.hid KX;have HUO:=Lib.hid huo;have HST0:=Lib.hid hst;have ZY:=Lib.hid RG;have HOV0:=Lib.hid hov;clear KX huo hst RG x0 nC hov;go_wp2_with fail;refine HKN_.out.mono ?_;rintro e W3 ⟨rfl,hy⟩;have hxw:=Ext.trans hx2 hy;have K:=HK.out.ext hy;have c1:W3.cell? ⟨g6,1,none⟩=some (.int .i64 u.fr):=by rw[K.cell];exact x1
   have c2:W3.cell? ⟨g6,2,none⟩=some (.int .i64 u.kn):=by rw[K.cell];exact x2
   have LO:Hid (∀W,Ext W3 W→W.rangeAt g6 3 (aN u.eY)):=Lib.hid (fun W hx=>aG.part (K.ext hx) 3 _ HUO.out);obtain⟨q5,hq5⟩:∃q,q=dw u.eY:=⟨_,rfl⟩;obtain⟨Y,hY⟩:∃Y,(aN u.eY).toArray=Y:=⟨_,rfl⟩;have HOV:Hid (∀W,Calls Tryz.prog 71 #[.agg Y] W fun e w'=>e=.returned (.bool q5)∧Ext W w'):=Lib.hid (fun W=>by rw[←hY,hq5];exact HOV0.out W);have Z5:=Lib.hid (zh u.fr 0 1000000);have WA:=Lib.hid (zh u.kn 0 1000000);obtain⟨q1,hq1⟩:∃q,q=decide (u.sat∈ids):=⟨_,rfl⟩;obtain⟨q2,hq2⟩:∃q,q=inB u.fr 0 1000000:=⟨_,rfl⟩;obtain⟨q3,hq3⟩:∃q,q=inB u.kn 0 1000000:=⟨_,rfl⟩;have HST:Hid (Q=(q1&&(q2&&q3&&q5)&&(match (aV l k).map (·.kn)with | none=>true | some y=>decide (y≤u.kn))&&jV ids (some u.kn) (l.drop (k+1)))):=Lib.hid (by rw[HST0.out,ZY.out,hq1,hq2,hq3,hq5];rfl);have HPV:Hid ((aV l (k+1)).map (·.kn)=some u.kn):=ZY;rw[←hq1];rw[←hq2]at Z5;rw[←hq3]at WA;have vC:=Lib.hid hY;have hpc:¬k=0→∃pk:Int,(aV l k).map (·.kn)=some pk∧W3.cell? ⟨b',o'+(k-1)*10+2,none⟩=some (.int .i64 pk):=fun hk0=>by
    refine⟨(l[k-1]'(by omega)).kn,by unfold aV;rw[if_neg hk0,List.getElem?_eq_getElem (by omega)];rfl,?_⟩;obtain⟨b2,o2,hz2,hA2,_,hc2⟩:=(aB Ny.out hxw).at_ iR (k:=k-1) (by omega);injection hA2 with hA2;injection hA2 with h1 h2;subst h1 h2;exact hc2 2 (by omega)
   have HPC:=Lib.hid hpc;have HOV:=HOV;clear HST0 ZY HOV0 hq1 hq2 hq3 hq5 hY hy hx1 hx2 K x1 x2 HKN_ HUO hpc HK hz;generalize u.fr=ufr at c1 Z5;generalize u.kn=Vo at c2 WA HST HPV;generalize u.eY=uorb at LO vC;have HF:=Z5;have Ci:=WA;clear Z5 WA iP qg kC qN;go_upto_region 5 with (fail);cases q1
   ·skip;refine aF 35 [some (.bool false),some (.bool true),some (.bool true),some (undef),some (undef),some (undef),some (undef),some (.bool true),some (.bool true),some (undef),some (undef),some (undef),some (undef),some (.bool true),some (.bool true),some (undef),some (undef),some (undef),some (undef),some (undef),some (undef),some (undef),some (undef),some (undef),some (undef),some (undef),some (undef),some (undef),some (.bool true),some (.bool true),some (undef),some (undef),some (undef),some (undef),some (.bool true)] [] ?_ ?_ ?_
    ·trivial
    ·refine⟨?_,?_,?_,?_,?_,?_,?_,?_,?_,?_,?_,?_,?_,?_,?_,?_,?_,?_,?_,?_,?_,?_,?_,?_,?_,?_,?_,?_,?_,?_,?_,?_,?_,?_,?_,trivial⟩
     all_goals
      intro vals w1 hx hd;clear hd;simp only[Lf,au,Act.put,bH,bG];go_wp2;exact iq
    intro vals w5 hx5 hf;have e34:vals 34=.bool true:=hf 34 (by omega);clear hf;have hx5:=hx5.aH;have xw:=Ext.trans hxw hx5;refine dO (by kernel_rfl) ?_;simp only[Lf,au,Act.put,FR_];rw[e34];clear e34 hx5;go_wp2;go_ret;exact⟨by rw[HVV.out,HST.out,Bool.false_and];simp,xw⟩
   ·cases q2
    ·skip;refine aF 35 [some (.bool true),some (.bool false),some (.bool false),some (.pointer (some ⟨g6,1,none⟩)),some (.int .i64 ufr),some (.bool false),some (.bool true),some (.bool true),some (.bool true),some (undef),some (undef),some (undef),some (undef),some (.bool true),some (.bool true),some (undef),some (undef),some (undef),some (undef),some (undef),some (undef),some (undef),some (undef),some (undef),some (undef),some (undef),some (undef),some (undef),some (.bool true),some (.bool true),some (undef),some (undef),some (undef),some (undef),some (.bool true)] [] ?_ ?_ ?_
     ·trivial
     ·refine⟨?_,?_,?_,?_,?_,?x5,?_,?_,?_,?_,?_,?_,?_,?_,?_,?_,?_,?_,?_,?_,?_,?_,?_,?_,?_,?_,?_,?_,?_,?_,?_,?_,?_,?_,?_,trivial⟩
      case x5 =>
       intro vals w1 hx hd;clear hd;simp only[Lf,au,Act.put,bH,bG];go_wp2_with fail;refine (HF.out _).mono ?_;rintro e w2 ⟨rfl,rfl⟩;go_wp2;exact q_
      all_goals
       intro vals w1 hx hd;clear hd;simp only[Lf,au,Act.put,bH,bG];have c1:=ah hx c1;go_wp2;exact iq
     intro vals w5 hx5 hf;have e34:vals 34=.bool true:=hf 34 (by omega);clear hf;have hx5:=hx5.aH;have xw:=Ext.trans hxw hx5;refine dO (by kernel_rfl) ?_;simp only[Lf,au,Act.put,FR_];rw[e34];clear e34 hx5;go_wp2;go_ret;exact⟨by rw[HVV.out,HST.out,Bool.false_and];simp,xw⟩
    ·cases q3
     ·skip;refine aF 35 [some (.bool true),some (.bool false),some (.bool false),some (.pointer (some ⟨g6,1,none⟩)),some (.int .i64 ufr),some (.bool true),some (.bool false),some (.bool false),some (.bool false),some (.pointer (some ⟨g6,2,none⟩)),some (.int .i64 Vo),some (.bool false),some (.bool true),some (.bool true),some (.bool true),some (undef),some (undef),some (undef),some (undef),some (undef),some (undef),some (undef),some (undef),some (undef),some (undef),some (undef),some (undef),some (undef),some (.bool true),some (.bool true),some (undef),some (undef),some (undef),some (undef),some (.bool true)] [] ?_ ?_ ?_
      ·trivial
      ·refine⟨?_,?_,?_,?_,?_,?x5,?_,?_,?_,?_,?_,?x11,?_,?_,?_,?_,?_,?_,?_,?_,?_,?_,?_,?_,?_,?_,?_,?_,?_,?_,?_,?_,?_,?_,?_,trivial⟩
       case x5 =>
        intro vals w1 hx hd;clear hd;simp only[Lf,au,Act.put,bH,bG];go_wp2_with fail;refine (HF.out _).mono ?_;rintro e w2 ⟨rfl,rfl⟩;go_wp2;exact q_
       case x11 =>
        intro vals w1 hx hd;clear hd;simp only[Lf,au,Act.put,bH,bG];go_wp2_with fail;refine (Ci.out _).mono ?_;rintro e w2 ⟨rfl,rfl⟩;go_wp2;exact q_
       all_goals
        intro vals w1 hx hd;clear hd;simp only[Lf,au,Act.put,bH,bG];have c1:=ah hx c1;have c2:=ah hx c2;go_wp2;exact iq
      intro vals w5 hx5 hf;have e34:vals 34=.bool true:=hf 34 (by omega);clear hf;have hx5:=hx5.aH;have xw:=Ext.trans hxw hx5;refine dO (by kernel_rfl) ?_;simp only[Lf,au,Act.put,FR_];rw[e34];clear e34 hx5;go_wp2;go_ret;exact⟨by rw[HVV.out,HST.out,Bool.and_false];simp,xw⟩
     ·by_cases hk0:k=0
      ·have hkz0:¬(0:Int)<(k:Int):=by omega
       have hkd:decide (0<k)=false:=by simp;omega
       have OB:Hid ((aV l k).map (·.kn)=none):=Lib.hid (by simp[aV,hk0]);clear hk0;refine aF 35 [some (.bool true),some (.bool false),some (.bool false),some (.pointer (some ⟨g6,1,none⟩)),some (.int .i64 ufr),some (.bool true),some (.bool false),some (.bool false),some (.bool false),some (.pointer (some ⟨g6,2,none⟩)),some (.int .i64 Vo),some (.bool true),some (.bool false),some (.bool false),some (.bool false),some (.int .i64 (k:Int)),some (.bool false),some (.bool false),some (undef),some (undef),some (undef),some (undef),some (undef),some (undef),some (undef),some (undef),some (undef),some (.bool false),some (.bool false),some (.bool false),some (.pointer (some ⟨g6,3,none⟩)),some (.agg Y),some (.bool q5),some (.bool (!q5)),some (.bool (!q5))] [] ?_ ?_ ?_
       ·trivial
       ·refine⟨?_,?_,?_,?_,?_,?x5,?_,?_,?_,?_,?_,?x11,?_,?_,?_,?_,?_,?_,?_,?_,?_,?_,?_,?_,?_,?_,?_,?_,?_,?_,?_,?x31,?x32,?_,?_,trivial⟩
        case x5 =>
         intro vals w1 hx hd;clear hd;simp only[Lf,au,Act.put,bH,bG];go_wp2_with fail;refine (HF.out _).mono ?_;rintro e w2 ⟨rfl,rfl⟩;go_wp2;exact q_
        case x11 =>
         intro vals w1 hx hd;clear hd;simp only[Lf,au,Act.put,bH,bG];go_wp2_with fail;refine (Ci.out _).mono ?_;rintro e w2 ⟨rfl,rfl⟩;go_wp2;exact q_
        case x31 =>
         intro vals w1 hx hd;clear hd;simp only[Lf,au,Act.put,bH,bG];refine aT rfl _ _ rfl g6 3 rfl Y (aN uorb) vC.out _ (LO.out _ hx.aH) Tryz.underlying51 rfl aZ ?_;go_wp2;exact q_
        case x32 =>
         intro vals w1 hx hd;clear hd;simp only[Lf,au,Act.put,bH,bG];go_wp2_with fail;refine (HOV.out _).mono ?_;rintro e w2 ⟨rfl,hb2⟩;go_wp2;exact⟨rfl,hb2,rfl⟩
        all_goals
         intro vals w1 hx hd;clear hd;simp only[Lf,au,Act.put,bH,bG];have c1:=ah hx c1;have c2:=ah hx c2;go_wp2;exact iq
       intro vals w5 hx5 hf;have e34:vals 34=.bool (!q5):=hf 34 (by omega);clear hf;have hx5:=hx5.aH;have xw:=Ext.trans hxw hx5;refine dO (by kernel_rfl) ?_;simp only[Lf,au,Act.put,FR_];rw[e34];clear e34 hx5;cases q5
       ·rw[Bool.not_false];go_wp2;go_ret;exact⟨by rw[HVV.out,HST.out];simp,xw⟩
       ·rw[Bool.not_true];have o_:Hid (Q=jV ids ((aV l (k+1)).map (·.kn)) (l.drop (k+1))):=Lib.hid (by rw[HST.out,HPV.out];simp[OB.out]);go_wp2;go_roundw
        case rel=>exact⟨k+1,by omega,by go_num,o_,xw⟩
        case measure=>simp[intOf];omega
      ·have hkz0:(0:Int)<(k:Int):=by omega
       have hkd:decide (0<k)=true:=by simp;omega
       have hki:IntKind.i64.wrap ((k:Int)-1)=(k:Int)-1:=IntWalk.i64_in _ (by omega);have rP:((k:Int)-1).toNat=k-1:=by omega
       have hk1n:k-1<n:=by omega
       obtain⟨pk,hpn,pc⟩:=HPC.out hk0;have OB:=Lib.hid hpn;clear hpn hk0;by_cases hq4:Vo<pk
       ·have hpk:¬pk≤Vo:=by omega
        refine aF 35 [some (.bool true),some (.bool false),some (.bool false),some (.pointer (some ⟨g6,1,none⟩)),some (.int .i64 ufr),some (.bool true),some (.bool false),some (.bool false),some (.bool false),some (.pointer (some ⟨g6,2,none⟩)),some (.int .i64 Vo),some (.bool true),some (.bool false),some (.bool false),some (.bool false),some (.int .i64 (k:Int)),some (.bool true),some (.bool true),some (.pointer (some ⟨g6,2,none⟩)),some (.int .i64 Vo),some (.slice (some ⟨b',o',none⟩) n c),some (.int .i64 (k:Int)),some (.int .i64 ((k:Int)-1)),some (.pointer (some ⟨b',o'+(k-1)*10,none⟩)),some (.pointer (some ⟨b',o'+(k-1)*10+2,none⟩)),some (.int .i64 pk),some (.bool true),some (.bool true),some (.bool true),some (.bool true),some (undef),some (undef),some (undef),some (undef),some (.bool true)] [] ?_ ?_ ?_
        ·trivial
        ·refine⟨?_,?_,?_,?_,?_,?x5,?_,?_,?_,?_,?_,?x11,?_,?_,?_,?_,?_,?_,?_,?_,?_,?_,?_,?_,?_,?_,?_,?_,?_,?_,?_,?_,?_,?_,?_,trivial⟩
         case x5 =>
          intro vals w1 hx hd;clear hd;simp only[Lf,au,Act.put,bH,bG];go_wp2_with fail;refine (HF.out _).mono ?_;rintro e w2 ⟨rfl,rfl⟩;go_wp2;exact q_
         case x11 =>
          intro vals w1 hx hd;clear hd;simp only[Lf,au,Act.put,bH,bG];go_wp2_with fail;refine (Ci.out _).mono ?_;rintro e w2 ⟨rfl,rfl⟩;go_wp2;exact q_
         all_goals
          intro vals w1 hx hd;clear hd;simp only[Lf,au,Act.put,bH,bG];have pc:=ah hx pc;have c1:=ah hx c1;have c2:=ah hx c2;go_wp2;exact iq
        intro vals w5 hx5 hf;have e34:vals 34=.bool true:=hf 34 (by omega);clear hf;have hx5:=hx5.aH;have xw:=Ext.trans hxw hx5;refine dO (by kernel_rfl) ?_;simp only[Lf,au,Act.put,FR_];rw[e34];clear e34 hx5;go_wp2;go_ret;exact⟨by rw[HVV.out,HST.out,OB.out];simp[show ¬pk≤Vo by omega],xw⟩
       ·have hpk:pk≤Vo:=by omega
        have HPK:=Lib.hid hpk;refine aF 35 [some (.bool true),some (.bool false),some (.bool false),some (.pointer (some ⟨g6,1,none⟩)),some (.int .i64 ufr),some (.bool true),some (.bool false),some (.bool false),some (.bool false),some (.pointer (some ⟨g6,2,none⟩)),some (.int .i64 Vo),some (.bool true),some (.bool false),some (.bool false),some (.bool false),some (.int .i64 (k:Int)),some (.bool true),some (.bool true),some (.pointer (some ⟨g6,2,none⟩)),some (.int .i64 Vo),some (.slice (some ⟨b',o',none⟩) n c),some (.int .i64 (k:Int)),some (.int .i64 ((k:Int)-1)),some (.pointer (some ⟨b',o'+(k-1)*10,none⟩)),some (.pointer (some ⟨b',o'+(k-1)*10+2,none⟩)),some (.int .i64 pk),some (.bool false),some (.bool false),some (.bool false),some (.bool false),some (.pointer (some ⟨g6,3,none⟩)),some (.agg Y),some (.bool q5),some (.bool (!q5)),some (.bool (!q5))] [] ?_ ?_ ?_
        ·trivial
        ·refine⟨?_,?_,?_,?_,?_,?x5,?_,?_,?_,?_,?_,?x11,?_,?_,?_,?_,?_,?_,?_,?_,?_,?_,?_,?_,?_,?_,?_,?_,?_,?_,?_,?x31,?x32,?_,?_,trivial⟩
         case x5 =>
          intro vals w1 hx hd;clear hd;simp only[Lf,au,Act.put,bH,bG];go_wp2_with fail;refine (HF.out _).mono ?_;rintro e w2 ⟨rfl,rfl⟩;go_wp2;exact q_
         case x11 =>
          intro vals w1 hx hd;clear hd;simp only[Lf,au,Act.put,bH,bG];go_wp2_with fail;refine (Ci.out _).mono ?_;rintro e w2 ⟨rfl,rfl⟩;go_wp2;exact q_
         case x31 =>
          intro vals w1 hx hd;clear hd;simp only[Lf,au,Act.put,bH,bG];refine aT rfl _ _ rfl g6 3 rfl Y (aN uorb) vC.out _ (LO.out _ hx.aH) Tryz.underlying51 rfl aZ ?_;go_wp2;exact q_
         case x32 =>
          intro vals w1 hx hd;clear hd;simp only[Lf,au,Act.put,bH,bG];go_wp2_with fail;refine (HOV.out _).mono ?_;rintro e w2 ⟨rfl,hb2⟩;go_wp2;exact⟨rfl,hb2,rfl⟩
         all_goals
          intro vals w1 hx hd;clear hd;simp only[Lf,au,Act.put,bH,bG];have pc:=ah hx pc;have c1:=ah hx c1;have c2:=ah hx c2;go_wp2;exact iq
        intro vals w5 hx5 hf;have e34:vals 34=.bool (!q5):=hf 34 (by omega);clear hf;have hx5:=hx5.aH;have xw:=Ext.trans hxw hx5;refine dO (by kernel_rfl) ?_;simp only[Lf,au,Act.put,FR_];rw[e34];clear e34 hx5;cases q5
        ·rw[Bool.not_false];go_wp2;go_ret;exact⟨by rw[HVV.out,HST.out];simp,xw⟩
        ·rw[Bool.not_true];have o_:Hid (Q=jV ids ((aV l (k+1)).map (·.kn)) (l.drop (k+1))):=Lib.hid (by rw[HST.out,HPV.out];simp[OB.out,HPK.out]);go_wp2;go_roundw
         case rel=>exact⟨k+1,by omega,by go_num,o_,xw⟩
         case measure=>simp[intOf];omega
  ·have hkz:¬(k:Int)<(n:Int):=by omega
   obtain rfl:Q=true:=by rw[HQK.out,List.drop_of_length_le (by rw[uz.out];omega)];cases (aV l k).map (·.kn)<;>rfl
   have RH:=Lib.hid (uy sats SA sn sc wr (aB yR.out nC));generalize eH sats=z at RH HVV;have HX:=Lib.hid nC;by_cases hn24:n≤24
   ·have hnd:decide (n≤24)=true:=by simpa using hn24
    have HVZ:Hid (V=z):=Lib.hid (by rw[HVV.out,hnd];simp);clear hnd HVV;have hnz:(n:Int)≤24:=by omega
    have hnd:decide (n≤24)=true:=by simpa using hn24
    go_wp2_with fail;refine RH.out.mono ?_;rintro e W4 ⟨rfl,hy⟩;have RJ:=Lib.hid (Ext.trans HX.out hy);go_wp2_with fail
    ·go_ret;exact⟨by rw[HVZ.out];rfl,RJ.out⟩
    all_goals (exfalso;omega)
   ·have hnd:decide (n≤24)=false:=by simpa using hn24
    have HVZ:Hid (V=false):=Lib.hid (by rw[HVV.out,hnd];simp);clear hnd HVV;have hnz:¬(n:Int)≤24:=by omega
    have hnd:decide (n≤24)=false:=by simpa using hn24
    clear hnd hnz RH;by_cases hnz:(n:Int)≤24
    ·omega
    go_wp2
    all_goals first | (go_ret;exact⟨by rw[HVZ.out];rfl,HX.out⟩) | omega
end Go.Proofs.YtjidhhfabfnhnaaGreat
namespace Go.Proofs.YtjidhhfabfnhnaaGreat
open Go.RowKit
theorem qo {α:Type} {xs ys:List α} {k:Nat} (h:xs.take k=ys.take k) (hx:k<xs.length) (hy:k<ys.length) (he:xs[k]=ys[k]):xs.take (k+1)=ys.take (k+1):=by
 rw[List.take_succ_eq_append_getElem hx,List.take_succ_eq_append_getElem hy,h,he]
theorem xA {α:Type} {xs ys:List α} {k:Nat} (hx:k<xs.length) (hy:k<ys.length) (he:¬xs[k]=ys[k]):¬xs=ys:=by
 rintro rfl;exact he rfl
theorem mQ:(Tryz.prog.info? 71).map (·.size)=some 6:=by kernel_rfl
theorem Nz (a b:iO) (w:World):(binOp .neq 32 (.agg #[.int .i64 a.fr,.int .i64 a.tt]) (.agg #[.int .i64 b.fr,.int .i64 b.tt])).run Tryz.prog w=.ok (.bool (!decide (a=b))) w:=by
 have u3:=Tryz.underlying3;have hS:Tryz.prog.underlying 32=some (.struct (Tryz.prog.fieldsOf 32)):=by kernel_rfl
 have hp:Tryz.prog.stoodInHeld 32=false:=by kernel_rfl
 have he:decide (a=b)=(a.fr==b.fr&&(a.tt==b.tt)):=by
  obtain⟨a1,a2⟩:=a;obtain⟨b1,b2⟩:=b;rw[Bool.eq_iff_iff];simp
 rw[he,run_neq_struct,show (10000:Nat)=9999+1 from rfl,run_equalIn_agg w 9999 32 _ _ hS hp];simp only[Program.fieldsOf,Tryz.underlying32];go_simp
 by_cases h0:a.fr=b.fr<;>by_cases h1:a.tt=b.tt<;>simp[h0,h1]
theorem zY (a b c d:Int) (w:World):(Op.equalIn 9999 32 (.agg #[.int .i64 a,.int .i64 b]) (.agg #[.int .i64 c,.int .i64 d])).run Tryz.prog w=.ok (a==c&&b==d) w:=by
 have u3:=Tryz.underlying3;have hS:Tryz.prog.underlying 32=some (.struct (Tryz.prog.fieldsOf 32)):=by kernel_rfl
 have hp:Tryz.prog.stoodInHeld 32=false:=by kernel_rfl
 rw[show (9999:Nat)=9998+1 from rfl,run_equalIn_agg w 9998 32 _ _ hS hp];clear hS hp;simp only[Program.fieldsOf,Tryz.underlying32];go_simp
 by_cases h0:a=c<;>by_cases h1:b=d<;>simp[h0,h1]
theorem NC (a b:bP) (w:World):(binOp .neq 75 (.agg #[.int .i64 a.sat,.int .i64 a.dh,.int .i64 a.sure.fr,.int .i64 a.sure.tt,.int .i64 a.can.fr,.int .i64 a.can.tt]) (.agg #[.int .i64 b.sat,.int .i64 b.dh,.int .i64 b.sure.fr,.int .i64 b.sure.tt,.int .i64 b.can.fr,.int .i64 b.can.tt])).run Tryz.prog w=.ok (.bool (!decide (a=b))) w:=by
 have u3:=Tryz.underlying3;have hS:Tryz.prog.underlying 75=some (.struct (Tryz.prog.fieldsOf 75)):=by kernel_rfl
 have hp:Tryz.prog.stoodInHeld 75=false:=by kernel_rfl
 rw[run_neq_struct,show (10000:Nat)=9999+1 from rfl,run_equalIn_agg w 9999 75 _ _ hS hp];have e2:=zY;clear hS hp;simp only[Program.fieldsOf,Tryz.underlying75];go_simp
 obtain⟨a1,a2,⟨a3,a4⟩,⟨a5,a6⟩⟩:=a;obtain⟨b1,b2,⟨b3,b4⟩,⟨b5,b6⟩⟩:=b;by_cases h0:a1=b1<;>by_cases h1:a2=b2<;>by_cases h2:a3=b3<;>by_cases h3:a4=b4<;>by_cases h4:a5=b5<;>by_cases h5:a6=b6<;>simp[h0,h1,h2,h3,h4,h5]
set_option maxHeartbeats 1000000 in
theorem lH (A1 A2:Option Addr) (n1 n2 c1 c2:Nat) (xs ys:List bP) (w:World) (h1:RA ak 6 w w.heap.size A1 n1 c1 xs) (h2:RA ak 6 w w.heap.size A2 n2 c2 ys) :
  Calls Tryz.prog 16 #[.slice A1 n1 c1,.slice A2 n2 c2] w fun e w'=>e=.returned (.bool (decide (xs=ys)))∧Below w.heap.size w w':=by
 have hn1:n1≤9223372036854775807:=h1.le;have hn2:n2≤9223372036854775807:=h2.le;have L1:Hid (xs.length=n1):=h1.len;have L2:Hid (ys.length=n2):=h2.len;have H1:=Lib.hid h1;have H2:=Lib.hid h2;clear h1 h2;by_cases hne:n1=n2
 ·subst hne;have hd:((n1:Int) != (n1:Int))=false:=by simp
  go_enter Tryz.func16,Tryz.ntmps16;go_wp2;go_loopw [5] (fun i wr=>∃k:Nat,k≤n1∧i=.int .i64 k∧Hid (xs.take k=ys.take k)∧Below w.heap.size w wr) (fun i _=>n1-(intOf i).toNat)
  case atStart=>exact⟨0,Nat.zero_le _,rfl,rfl,Below.refl _ _⟩
  case round =>
   obtain⟨k,hk,rfl,H,hB⟩:=hrel;by_cases hlt:k<n1
   ·obtain⟨b,o,hz,hA,hb,hc⟩:=(H1.out.below hB).at_ bg hlt;obtain⟨b',o',hz',hA',hb',hc'⟩:=(H2.out.below hB).at_ bg hlt;subst hA hA';have hstep:=qo (k:=k) H.out hz hz';have hstop:=xA (k:=k) hz hz';generalize xs[k]=x at hc hstep hstop;generalize ys[k]=y at hc' hstep hstop;have c0:wr.cell? ⟨b,o+k*6,none⟩=some (.int .i64 x.sat):=hc 0 (by omega);have c1:wr.cell? ⟨b,o+k*6+1,none⟩=some (.int .i64 x.dh):=hc 1 (by omega);have c2:wr.cell? ⟨b,o+k*6+2,none⟩=some (.int .i64 x.sure.fr):=hc 2 (by omega);have c3:wr.cell? ⟨b,o+k*6+3,none⟩=some (.int .i64 x.sure.tt):=hc 3 (by omega);have c4:wr.cell? ⟨b,o+k*6+4,none⟩=some (.int .i64 x.can.fr):=hc 4 (by omega);have c5:wr.cell? ⟨b,o+k*6+5,none⟩=some (.int .i64 x.can.tt):=hc 5 (by omega);have d0:wr.cell? ⟨b',o'+k*6,none⟩=some (.int .i64 y.sat):=hc' 0 (by omega);have d1:wr.cell? ⟨b',o'+k*6+1,none⟩=some (.int .i64 y.dh):=hc' 1 (by omega);have d2:wr.cell? ⟨b',o'+k*6+2,none⟩=some (.int .i64 y.sure.fr):=hc' 2 (by omega);have d3:wr.cell? ⟨b',o'+k*6+3,none⟩=some (.int .i64 y.sure.tt):=hc' 3 (by omega);have d4:wr.cell? ⟨b',o'+k*6+4,none⟩=some (.int .i64 y.can.fr):=hc' 4 (by omega);have d5:wr.cell? ⟨b',o'+k*6+5,none⟩=some (.int .i64 y.can.tt):=hc' 5 (by omega);clear hc hc';by_cases hxy:x=y
    ·have HS:=Lib.hid (hstep hxy);clear hstep hstop;subst hxy;have he:(!decide (x=x))=false:=by simp
     have hnq:=NC;go_wp2;go_quiet (fail)
     go_wp2;go_roundw
     case rel=>exact⟨k+1,by omega,by go_num,HS.out,(by repeat (first | exact Below.refl _ _ | assumption | refine Below.drew ?_ | refine below_drewN ?_ _ | refine aj ?_ _ | refine Below.setCell ?_ (by first | (simp;done) | omega | (simp;omega)) _ | refine aA ?_ (by assumption)))⟩
     case measure=>simp[intOf];omega
    ·have he:(!decide (x=y))=true:=by simp[hxy]
     have HX:=Lib.hid (hstop hxy);clear hxy hstep hstop;have hnq:=NC;go_wp2;go_quiet (fail)
     go_wp2;go_ret;exact⟨by rw[decide_eq_false HX.out];rfl,(by repeat (first | exact Below.refl _ _ | assumption | refine Below.drew ?_ | refine below_drewN ?_ _ | refine aj ?_ _ | refine Below.setCell ?_ (by first | (simp;done) | omega | (simp;omega)) _ | refine aA ?_ (by assumption)))⟩
   ·go_wp2;go_ret;refine⟨?_,(by repeat (first | exact Below.refl _ _ | assumption | refine Below.drew ?_ | refine below_drewN ?_ _ | refine aj ?_ _ | refine Below.setCell ?_ (by first | (simp;done) | omega | (simp;omega)) _ | refine aA ?_ (by assumption)))⟩;have hxy:xs=ys:=by
     have:=H.out;rwa[List.take_of_length_le (by rw[L1.out];omega),List.take_of_length_le (by rw[L2.out];omega)]at this
    rw[decide_eq_true hxy];rfl
 ·have hd:((n1:Int) != (n2:Int))=true:=by simp;omega
  have hxy:¬xs=ys:=by
   rintro rfl;exact hne (L1.out.symm.trans L2.out)
  rw[decide_eq_false hxy];clear hxy;go_enter Tryz.func16,Tryz.ntmps16;go_wp2;go_ret;exact⟨rfl,Below.refl _ _⟩
end Go.Proofs.YtjidhhfabfnhnaaGreat
namespace Go.Proofs.YtjidhhfabfnhnaaGreat
open Go.RowKit
theorem RA.one {α:Type} {cells:α→List Value} {s:Nat} {w:World} {g:Nat} {t:TypeId} {x:α} (hs:(cells x).length=s) (J:aG w g t (cells x).toArray):RA cells s w w.heap.size (some ⟨g,0,none⟩) 1 1 [x]:=by
 refine⟨⟨by simp[hs],fun _=>⟨g,0,rfl,J.lt,fun j u hu=>?_⟩⟩,rfl,Nat.le_refl _,by unfold maxLen;omega,by omega⟩;rw[Nat.zero_add,J.cell,←hu];simp
theorem RA.two {α:Type} {cells:α→List Value} {s:Nat} {w:World} {g:Nat} {t:TypeId} {x y:α} (hx:(cells x).length=s) (hy:(cells y).length=s) (J:aG w g t (cells x++cells y).toArray):RA cells s w w.heap.size (some ⟨g,0,none⟩) 2 2 [x,y]:=by
 refine⟨⟨by simp[hx,hy];omega,fun _=>⟨g,0,rfl,J.lt,fun j u hu=>?_⟩⟩,rfl,Nat.le_refl _,by unfold maxLen;omega,by omega⟩;rw[Nat.zero_add,J.cell,←hu];simp
theorem RA.d_ {α:Type} {cells:α→List Value} {s:Nat} {w:World} {base:Nat} {e:TypeId} {A:Option Addr} {n c:Nat} {l:List α} (h:w.ownsRow base e s (.slice A n c) n (l.flatMap cells)) (hl:l.length=n) (hn:n≤9223372036854775807):RA cells s w w.heap.size A n c l:=by
 obtain⟨A',c',hv,h1,h2⟩:=aX h;injection hv with _ _ hv;subst hv;exact⟨Reads.d_ h,hl,h1,h2,hn⟩
def inS (s:iO) (t:Int):Bool:=decide (s.fr≤t)&&decide (t<s.tt)
def exSat (sl:Int):St:=⟨1,0,⟨96,0,4000,20000,0,0,sl⟩,0,1,1,0,0,0,0,0,0,1,0,5⟩
def lI:iD:=⟨2,⟨0,12⟩,0,1,0⟩
end Go.Proofs.YtjidhhfabfnhnaaGreat
