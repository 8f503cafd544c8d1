/- Passes by what is known: what holds between the rounds. -/
import Derived.Test.YtjidhhfabfnhnaaGreatT15
import Derived.Test.YtjidhhfabfnhnaaGreatT16
import Derived.Test.YtjidhhfabfnhnaaGreatT01
import Derived.Test.YtjidhhfabfnhnaaGreatT12
namespace Go.Proofs.YtjidhhfabfnhnaaGreat
open Go.RowKit
structure sD {α:Type} (c:α→α→Int):Prop where
 sw:∀a b,c a b<0↔0<c b a
 tr:∀a b d,c a b≤0→c b d≤0→c a d≤0
theorem sD.key {α:Type} (f:α→Int):sD (fun a b=>iL (f a) (f b)):=by
 constructor
 ·intro a b;simp only[iL]
  repeat' split
  all_goals omega
 ·intro a b d;simp only[iL]
  repeat' split
  all_goals omega
theorem sD.or {α:Type} {c d:α→α→Int} (h:sD c) (k:sD d):sD (fun a b=>Nh (c a b) (d a b)):=by
 constructor
 ·intro a b;have h1:=h.sw a b;have h2:=h.sw b a;have h3:=k.sw a b;simp only[Nh]
  repeat' split
  all_goals omega
 ·intro a b e;have h1:=h.sw a b;have h2:=h.sw b a;have h3:=h.sw b e;have h4:=h.sw e b;have h5:=h.sw a e;have h6:=h.sw e a;have t1:=h.tr a b e;have t2:=h.tr e a b;have t3:=h.tr b e a;have t4:=k.tr a b e;simp only[Nh]
  repeat' split
  all_goals omega
theorem sD.strict {α:Type} {c:α→α→Int} (h:sD c):SW (ltOf c):=by
 constructor
 ·intro a b d h1 h2;simp only[ltOf,decide_eq_true_eq]at h1 h2⊢;have e1:=h.sw a b;have e2:=h.sw a d;have e3:=h.tr b d a;omega
 ·intro a b h1;simp only[ltOf,decide_eq_true_eq,decide_eq_false_iff_not]at h1⊢;have e1:=h.sw a b;omega
 ·intro a b d h1 h2;simp only[ltOf,decide_eq_false_iff_not]at h1 h2⊢;have e1:=h.sw a b;have e2:=h.sw b d;have e3:=h.sw a d;have e4:=h.tr d b a;omega
theorem La:SW (ltOf aU):=(sD.or (sD.key (fun p:bP=>p.can.fr)) (sD.or (sD.key (fun p:bP=>p.sat)) (sD.or (sD.key (fun p:bP=>p.dh)) (sD.or (sD.key (fun p:bP=>p.sure.fr)) (sD.key (fun p:bP=>p.can.tt)))))).strict
theorem OQ:YS 1000000:=fun base g n c l w h hn=>Ih 68 #[] aU (enters_of Tryz.func68 (by kernel_rfl) rfl) (fun x y w=>Du x y w) La base g n c hn l w h
theorem Lc (sats:List St) (aK:List iD) (SA TA:Option Addr) (sn sc tn tc:Nat) (a b:Int) (w:World) (hS:RA aC 21 w w.heap.size SA sn sc sats) (hT:RA bJ 6 w w.heap.size TA tn tc aK) :
  Calls Tryz.prog 35 #[.slice SA sn sc,.slice TA tn tc,.agg #[.int .i64 a,.int .i64 b]] w (tN (dB sats aK ⟨a,b⟩) w) :=
 callsIn_wide.1 (OO 1000000 OQ sats aK SA TA sn sc tn tc a b w hS hT (fun h=>by omega))
end Go.Proofs.YtjidhhfabfnhnaaGreat
namespace Go.Proofs.YtjidhhfabfnhnaaGreat
open Go.RowKit Go.Shelf
set_option maxHeartbeats 1000000 in
theorem FK (oO oP aa ab ac ad oQ oU ba bb bc bd:Int) (w:World) :
  Calls Tryz.prog 50 #[.agg #[.int .i64 oO,.int .i64 oP,.int .i64 aa,.int .i64 ab,.int .i64 ac,.int .i64 ad],.agg #[.int .i64 oQ,.int .i64 oU,.int .i64 ba,.int .i64 bb,.int .i64 bc,.int .i64 bd]] w fun e w'=>e=.returned (.int .i64 (aU ⟨oO,oP,⟨aa,ab⟩,⟨ac,ad⟩⟩ ⟨oQ,oU,⟨ba,bb⟩,⟨bc,bd⟩⟩))∧Below w.heap.size w w':=by
 have hr:aU ⟨oO,oP,⟨aa,ab⟩,⟨ac,ad⟩⟩ ⟨oQ,oU,⟨ba,bb⟩,⟨bc,bd⟩⟩=JQ [iL ac bc,iL oO oQ,iL oP oU,iL aa ba,iL ad bd]:=(orL5 _ _ _ _ _).symm;rw[hr];clear hr;generalize h0:iL ac bc=c0;generalize h1:iL oO oQ=c1;generalize h2:iL oP oU=c2;generalize h3:iL aa ba=c3;generalize h4:iL ad bd=c4;have Vj:=Lib.hid h0;have HC1:=Lib.hid h1;have HC2:=Lib.hid h2;have HC3:=Lib.hid h3;have HC4:=Lib.hid h4;clear h0 h1 h2 h3 h4;go_enter Tryz.func50,Tryz.ntmps50;go_wp2_with fail;have K1:aG ((w.alloc (.cells #[.int .i64 oO,.int .i64 oP,.int .i64 aa,.int .i64 ab,.int .i64 ac,.int .i64 ad] 75)).alloc (.cells #[.int .i64 oQ,.int .i64 oU,.int .i64 ba,.int .i64 bb,.int .i64 bc,.int .i64 bd] 75)) w.heap.size 75 #[.int .i64 oO,.int .i64 oP,.int .i64 aa,.int .i64 ab,.int .i64 ac,.int .i64 ad]:=(aG.new _ _ _).alloc _;have K2:aG ((w.alloc (.cells #[.int .i64 oO,.int .i64 oP,.int .i64 aa,.int .i64 ab,.int .i64 ac,.int .i64 ad] 75)).alloc (.cells #[.int .i64 oQ,.int .i64 oU,.int .i64 ba,.int .i64 bb,.int .i64 bc,.int .i64 bd] 75)) (w.heap.size+1) 75 #[.int .i64 oQ,.int .i64 oU,.int .i64 ba,.int .i64 bb,.int .i64 bc,.int .i64 bd]:=aG.bC _ _ _ (by simp);have hB:Below w.heap.size w ((w.alloc (.cells #[.int .i64 oO,.int .i64 oP,.int .i64 aa,.int .i64 ab,.int .i64 ac,.int .i64 ad] 75)).alloc (.cells #[.int .i64 oQ,.int .i64 oU,.int .i64 ba,.int .i64 bb,.int .i64 bc,.int .i64 bd] 75)):=(by repeat (first | exact Below.refl _ _ | assumption | refine Below.drew ?_ | refine below_drewN ?_ _ | refine aj ?_ _ | refine Below.setCell ?_ (by first | (simp;done) | omega | (simp;omega)) _ | refine aA ?_ (by assumption)));generalize (w.alloc (.cells #[.int .i64 oO,.int .i64 oP,.int .i64 aa,.int .i64 ab,.int .i64 ac,.int .i64 ad] 75)).alloc (.cells #[.int .i64 oQ,.int .i64 oU,.int .i64 ba,.int .i64 bb,.int .i64 bc,.int .i64 bd] 75)=W at K1 K2 hB⊢;have g0:W.cell? ⟨w.heap.size,0,none⟩=some (.int .i64 oO):=K1.cell 0;have g1:W.cell? ⟨w.heap.size,1,none⟩=some (.int .i64 oP):=K1.cell 1;have g2:W.cell? ⟨w.heap.size,2,none⟩=some (.int .i64 aa):=K1.cell 2;have g3:W.cell? ⟨w.heap.size,3,none⟩=some (.int .i64 ab):=K1.cell 3;have g4:W.cell? ⟨w.heap.size,4,none⟩=some (.int .i64 ac):=K1.cell 4;have g5:W.cell? ⟨w.heap.size,5,none⟩=some (.int .i64 ad):=K1.cell 5;have k0:W.cell? ⟨(w.heap.size+1),0,none⟩=some (.int .i64 oQ):=K2.cell 0;have k1:W.cell? ⟨(w.heap.size+1),1,none⟩=some (.int .i64 oU):=K2.cell 1;have k2:W.cell? ⟨(w.heap.size+1),2,none⟩=some (.int .i64 ba):=K2.cell 2;have k3:W.cell? ⟨(w.heap.size+1),3,none⟩=some (.int .i64 bb):=K2.cell 3;have k4:W.cell? ⟨(w.heap.size+1),4,none⟩=some (.int .i64 bc):=K2.cell 4;have k5:W.cell? ⟨(w.heap.size+1),5,none⟩=some (.int .i64 bd):=K2.cell 5;refine aF 33 [some (.pointer (some ⟨w.heap.size,4,none⟩)),some (.pointer (some ⟨w.heap.size,4,none⟩)),some (.int .i64 ac),some (.pointer (some ⟨w.heap.size+1,4,none⟩)),some (.pointer (some ⟨w.heap.size+1,4,none⟩)),some (.int .i64 bc),some (.int .i64 c0),some (.pointer (some ⟨w.heap.size,0,none⟩)),some (.int .i64 oO),some (.pointer (some ⟨w.heap.size+1,0,none⟩)),some (.int .i64 oQ),some (.int .i64 c1),some (.pointer (some ⟨w.heap.size,1,none⟩)),some (.int .i64 oP),some (.pointer (some ⟨w.heap.size+1,1,none⟩)),some (.int .i64 oU),some (.int .i64 c2),some (.pointer (some ⟨w.heap.size,2,none⟩)),some (.pointer (some ⟨w.heap.size,2,none⟩)),some (.int .i64 aa),some (.pointer (some ⟨w.heap.size+1,2,none⟩)),some (.pointer (some ⟨w.heap.size+1,2,none⟩)),some (.int .i64 ba),some (.int .i64 c3),some (.pointer (some ⟨w.heap.size,4,none⟩)),some (.pointer (some ⟨w.heap.size,5,none⟩)),some (.int .i64 ad),some (.pointer (some ⟨w.heap.size+1,4,none⟩)),some (.pointer (some ⟨w.heap.size+1,5,none⟩)),some (.int .i64 bd),some (.int .i64 c4),none,some (.int .i64 (JQ [c0,c1,c2,c3,c4]))] [(31,.w fun v w1=>∃g,v=.slice (some ⟨g,0,none⟩) 5 5∧aG w1 g 3 #[.int .i64 c0,.int .i64 c1,.int .i64 c2,.int .i64 c3,.int .i64 c4])] ?_ ?_ ?_
 ·refine⟨?_,trivial⟩
  ·intro v w1 w2 hr hx;obtain⟨g,h1,h2⟩:=hr;exact⟨g,h1,h2.ext hx⟩
 ·refine⟨?_,?_,?_,?_,?_,?_,?x6,?_,?_,?_,?_,?x11,?_,?_,?_,?_,?x16,?_,?_,?_,?_,?_,?_,?x23,?_,?_,?_,?_,?_,?_,?x30,?x31,?x32,trivial⟩
  case x6 =>
   intro vals w1 hx hd;clear hd;simp only[Lf,au,Act.put,bH,bG];go_wp2_with fail;refine (lg ac bc _).mono ?_;rintro e w2 ⟨rfl,rfl⟩;rw[Vj.out];go_wp2;exact q_
  case x11 =>
   intro vals w1 hx hd;clear hd;simp only[Lf,au,Act.put,bH,bG];go_wp2_with fail;refine (lg oO oQ _).mono ?_;rintro e w2 ⟨rfl,rfl⟩;rw[HC1.out];go_wp2;exact q_
  case x16 =>
   intro vals w1 hx hd;clear hd;simp only[Lf,au,Act.put,bH,bG];go_wp2_with fail;refine (lg oP oU _).mono ?_;rintro e w2 ⟨rfl,rfl⟩;rw[HC2.out];go_wp2;exact q_
  case x23 =>
   intro vals w1 hx hd;clear hd;simp only[Lf,au,Act.put,bH,bG];go_wp2_with fail;refine (lg aa ba _).mono ?_;rintro e w2 ⟨rfl,rfl⟩;rw[HC3.out];go_wp2;exact q_
  case x30 =>
   intro vals w1 hx hd;clear hd;simp only[Lf,au,Act.put,bH,bG];go_wp2_with fail;refine (lg ad bd _).mono ?_;rintro e w2 ⟨rfl,rfl⟩;rw[HC4.out];go_wp2;exact q_
  case x31 =>
   intro vals w1 hx hd;clear hd;simp only[Lf,au,Act.put,bH,bG];go_wp2;exact⟨rfl,(by repeat (first | exact Below.refl _ _ | assumption | refine Below.drew ?_ | refine below_drewN ?_ _ | refine aj ?_ _ | refine Below.setCell ?_ (by first | (simp;done) | omega | (simp;omega)) _ | refine aA ?_ (by assumption))),_,rfl,aG.new _ _ _⟩
  case x32 =>
   intro vals w1 hx hd;have r31:(fun v w1=>∃g,v=.slice (some ⟨g,0,none⟩) 5 5∧aG w1 g 3 #[.int .i64 c0,.int .i64 c1,.int .i64 c2,.int .i64 c3,.int .i64 c4]) (vals 31) w1:=hd 31 (by decide) rfl;dsimp only at r31;clear hd;simp only[Lf,au,Act.put,bH,bG];obtain⟨g,h1,h2⟩:=r31;simp only[h1];go_wp2_with fail;refine (QM [c0,c1,c2,c3,c4] g 5 5 _ rfl (by omega) (h2.ints rfl)).mono ?_;rintro e w2 ⟨rfl,rfl⟩;go_wp2;exact q_
  all_goals
   intro vals w1 hx hd;clear hd;simp only[Lf,au,Act.put,bH,bG];have g4:=ah hx g4;have k4:=ah hx k4;have g0:=ah hx g0;have k0:=ah hx k0;have g1:=ah hx g1;have k1:=ah hx k1;have g2:=ah hx g2;have k2:=ah hx k2;have g5:=ah hx g5;have k5:=ah hx k5;go_wp2;exact iq
 intro vals w5 hx hf;have e32:vals 32=.int .i64 (JQ [c0,c1,c2,c3,c4]):=hf 32 (by omega);clear hf;have iJ:Below w.heap.size w w5:=aA hB hx.aH;refine eP 33 _ (by kernel_rfl) (by kernel_rfl) rfl ?_;simp only[Lf,au,Act.put,FR_];rw[e32];go_wp2;go_ret;exact⟨rfl,iJ⟩
theorem Ld (x y:bP) (w:World):Calls Tryz.prog 50 #[.agg (ak x).toArray,.agg (ak y).toArray] w fun e w'=>e=.returned (.int .i64 (aU x y))∧Below w.heap.size w w':=by
 obtain⟨sa,sn,⟨a,b⟩,⟨c,d⟩⟩:=x;obtain⟨sa',sn',⟨a',b'⟩,⟨c',d'⟩⟩:=y;exact FK sa sn a b c d sa' sn' a' b' c' d' w
theorem OV (base g n c:Nat) (l:List bP) (w:World) (h:aW ak 6 base 75 g n c w l) (hn:n≤1000000) :
  Calls Tryz.prog 49 #[.slice (some ⟨g,0,none⟩) n c,.func (.func 50) #[] #[]] w
   fun e w'=>e=.returned (.tuple #[])∧aW ak 6 base 75 g n c w' (bM (ltOf aU) l)∧w.grownBy w' (some g) :=
 Ih 50 #[] aU (enters_of Tryz.func50 (by kernel_rfl) rfl) (fun x y w=>Ld x y w) La base g n c hn l w h
def nH (s:St) (o:iM):St:={ s with aY:=o }
def dA (aK:List iD) (s:St):List Str→Option (List bP)
 |[]=>some []
 |x::r=>match dB [nH s x.eY] aK x.sp,dA aK s r with
  |some a,some b=>some (a++b)
  |_,_=>none
def jF (aK:List iD) (l:List fE) (sp:iO) (kn:Int):List St→Option (List bP)
 |[]=>some []
 |s::r=>match dA aK s (oW s l sp kn),jF aK l sp kn r with
  |some a,some b=>some (a++b)
  |_,_=>none
def bU (sats:List St) (aK:List iD) (l:List fE) (sp:iO) (kn:Int):Option (List bP) :=
 if (jD sp&&fV sats l&&gU aK)=true then (match jF aK l sp kn sats with
  |none=>none
  |some o=>if o.length≤64 then some (bM (ltOf aU) o) else none) else none
theorem xK {sats:List St} {aK:List iD} {s:iO} {o:List bP} (h:dB sats aK s=some o):o.length≤64:=by
 unfold dB at h
 split at h
 ·split at h
  ·injection h with h;rw[←h,cu];assumption
  ·cases h
 ·cases h
theorem DX (aK:List iD) (s:St):∀(a b:List Str),dA aK s (a++b)=match dA aK s a,dA aK s b with
  |some x,some y=>some (x++y)
  |_,_=>none:=by
 intro a
 induction a with
 |nil=>intro b;rw[List.nil_append,dA];cases dA aK s b<;>simp
 |cons x r ih =>
  intro b;rw[List.cons_append,dA,dA,ih];cases dB [nH s x.eY] aK x.sp with
  |none=>rfl
  |some p =>
   cases dA aK s r with
   |none=>rfl
   |some q=>cases dA aK s b<;>simp
theorem AV (aK:List iD) (s:St):∀(l:List Str) (o:List bP),dA aK s l=some o→o.length≤64*l.length:=by
 intro l
 induction l with
 |nil=>intro o h;rw[dA]at h;injection h with h;subst h;simp
 |cons x r ih =>
  intro o h;rw[dA]at h;cases hp:dB [nH s x.eY] aK x.sp with
  |none=>rw[hp]at h;cases h
  |some p =>
   cases hq:dA aK s r with
   |none=>rw[hp,hq]at h;cases h
   |some q =>
    rw[hp,hq]at h;injection h with h;have h1:=xK hp;have h2:=ih q hq;rw[←h,List.length_append,List.length_cons];omega
theorem NQ (aK:List iD) (l:List fE) (sp:iO) (kn:Int):∀(a b:List St),jF aK l sp kn (a++b)=match jF aK l sp kn a,jF aK l sp kn b with
  |some x,some y=>some (x++y)
  |_,_=>none:=by
 intro a
 induction a with
 |nil=>intro b;rw[List.nil_append,jF];cases jF aK l sp kn b<;>simp
 |cons x r ih =>
  intro b;rw[List.cons_append,jF,jF,ih];cases dA aK x (oW x l sp kn)with
  |none=>rfl
  |some p =>
   cases jF aK l sp kn r with
   |none=>rfl
   |some q=>cases jF aK l sp kn b<;>simp
theorem all_le (aK:List iD) (l:List fE) (sp:iO) (kn:Int) (hs:sp.tt-sp.fr≤1440):∀(a:List St) (o:List bP),jF aK l sp kn a=some o→o.length≤92160*a.length:=by
 intro a
 induction a with
 |nil=>intro o h;rw[jF]at h;injection h with h;subst h;simp
 |cons x r ih =>
  intro o h;rw[jF]at h;cases hp:dA aK x (oW x l sp kn)with
  |none=>rw[hp]at h;cases h
  |some p =>
   cases hq:jF aK l sp kn r with
   |none=>rw[hp,hq]at h;cases h
   |some q =>
    rw[hp,hq]at h;injection h with h;have h1:=AV aK x _ _ hp;have h2:=ih q hq;have h3:=vH (fK x l kn) (sp.tt-sp.fr).toNat sp.fr;have h4:(oW x l sp kn).length≤1440:=by
     show (eX (fK x l kn) sp.fr (sp.tt-sp.fr).toNat).length≤1440
     omega
    rw[←h,List.length_append,List.length_cons];omega
theorem WW {w:World} (ty:TypeId) (xs ys:List bP) (v:Value) (base b n c:Nat) (A:Option Addr) (hx:w.ownsRow base 75 6 v xs.length (xs.flatMap ak)) (hnil:xs.length=0→v=.slice none 0 0) (hy:RA ak 6 w b A n c ys) (hn:xs.length+n≤10000000) (hb:base≤w.heap.size) :
  ∃v' w',(Builtin.append_ #[36,36] ty #[v,.slice A n c]).run Tryz.prog w=.ok v' w'∧w.grownBy w' v.ownBlock∧w'.ownsRow base 75 6 v' (xs++ys).length ((xs++ys).flatMap ak)∧((xs++ys).length=0→v'=.slice none 0 0)∧(∀q,v'.ownBlock=some q→v.ownBlock=some q∨w.heap.size≤q):=by
 obtain⟨i0,hi0,hz0,hz1,hz2⟩:=info_parts Aa;have hl:=hy.len;rcases Nat.eq_zero_or_pos n with hn0 | hn0
 ·subst hn0;obtain rfl:ys=[]:=List.eq_nil_of_length_eq_zero hl;rw[List.append_nil];refine⟨v,w,?_,⟨rfl,rfl,rfl,Nat.le_refl _,fun _ _ _=>rfl⟩,hx,hnil,fun q h=>.inl h⟩;rcases hx.2 with ⟨rfl,_⟩ | ⟨g,cap,cur,rfl,_,_,hc,_⟩
  ·cases A<;>simp[Builtin.append_,run_underlying Tryz.underlying36,sizeOf,typeInfo,hi0,Builtin.lenOf,Builtin.firstCells,loadCells,loadCellsFrom]
  ·cases A<;>simp[Builtin.append_,run_underlying Tryz.underlying36,sizeOf,typeInfo,hi0,Builtin.lenOf,Builtin.firstCells,hc,storeCells,loadCells,loadCellsFrom]
 ·obtain⟨b',o,rfl,_,hc⟩:=hy.rd.2 hn0;obtain⟨v',w',h3,h4,h5,h6,h7⟩:=run_append_own_at (P:=Tryz.prog) (w:=w) base 36 ty 75 i0 _ 6 48 Tryz.underlying36 hi0 hz0 hz1 hz2 rfl (by omega) v _ _ hx ⟨b',o,none⟩ n c _ hy.rd.1 (fun j u hu=>by rw[Addr.add_lit];exact hc j u hu) (Ac ys) (by unfold maxLen;omega) (by omega) hb;refine⟨v',w',h3,h5,?_,fun h=>?_,fun q hq=>?_⟩
  ·rw[List.length_append,List.flatMap_append,hl];exact h4
  ·rw[List.length_append,hl]at h;omega
  ·rcases h7 with h7 | h7
   ·exact .inl (by rw[←h7];exact hq)
   ·rw[h7]at hq;injection hq with hq;exact .inr (by omega)
end Go.Proofs.YtjidhhfabfnhnaaGreat
namespace Go.Proofs.YtjidhhfabfnhnaaGreat
open Go.RowKit Go.Shelf
attribute [local go_sem] Oper.semAt_some
def pJ (r:Option (List bP)) (w:World) (e:Ending) (w':World):Prop:=match r with
 |none=>e=.returned (.tuple #[.slice none 0 0,.int .i64 360])∧Ext w w'
 |some l=>(∃v,e=.returned (.tuple #[v,.int .i64 0])∧w'.ownsRow w.heap.size 75 6 v l.length (l.flatMap ak))∧Ext w w'
structure EJ (w:World) (g10 g11:Nat) (v:Value) (e:Int) (l:List bP) (W:World):Prop where
 k10:aG W g10 36 #[v]
 k11:aG W g11 41 #[.int .i64 e]
 own:W.ownsRow w.heap.size 75 6 v l.length (l.flatMap ak)
 below:Ext w W
theorem FM (w:World) (g10 g11:Nat) (v:Value) (e:Int) (l:List bP):OwnFrom w.heap.size (fun (_:Unit) W=>EJ w g10 g11 v e l W):=by
 rintro _ X Y row ⟨k1,k2,k3,k4⟩ hgr hr;exact⟨bF k1 hgr hr,bF k2 hgr hr,iH k3 hgr hr,k4.grown hgr k4.size (fun k e=>(hr k e).1)⟩
structure EI (w:World) (g6 g8 g10 g11:Nat) (TA:Option Addr) (tn tc:Nat) (a b:Int) (out:List bP) (Ds:List Nat) (W:World):Prop where
 k6:aG W g6 29 #[.slice TA tn tc]
 k8:aG W g8 32 #[.int .i64 a,.int .i64 b]
 row:∃v,aG W g10 36 #[v]∧W.ownsRow w.heap.size 75 6 v out.length (out.flatMap ak)∧(out.length=0→v=.slice none 0 0)
 k11:aG W g11 41 #[.int .i64 0]
 below:Ext w W
 marks:dW w.heap.size Ds W
theorem EI.ext {w W W':World} {g6 g8 g10 g11:Nat} {TA:Option Addr} {tn tc:Nat} {a b:Int} {out:List bP} {Ds:List Nat} (h:EI w g6 g8 g10 g11 TA tn tc a b out Ds W) (hx:Ext W W'):EI w g6 g8 g10 g11 TA tn tc a b out Ds W':=by
 obtain⟨v,k1,k2,k3⟩:=h.row;exact⟨h.k6.ext hx,h.k8.ext hx,⟨v,k1.ext hx,bT k2 hx,k3⟩,h.k11.ext hx,Ext.trans h.below hx,h.marks.ext hx⟩
structure SI (w:World) (g6 g8 g10 g11 g13:Nat) (P:Array Value) (TA:Option Addr) (tn tc:Nat) (a b:Int) (aK:List iD) (s:St) (AP:List bP) (Ds:List Nat) (v0:Value) (B0:Nat) (pre:List nG) (W:World):Prop where
 k6:aG W g6 29 #[.slice TA tn tc]
 k8:aG W g8 32 #[.int .i64 a,.int .i64 b]
 k13:aG W g13 53 P
 row:∃v p,dA aK s (pre.map (·.1))=some p∧aG W g10 36 #[v]∧W.ownsRow w.heap.size 75 6 v (AP++p).length ((AP++p).flatMap ak)∧((AP++p).length=0→v=.slice none 0 0)∧(∀q,v.ownBlock=some q→v0.ownBlock=some q∨B0≤q)
 k11:aG W g11 41 #[.int .i64 0]
 below:Ext w W
 marks:dW w.heap.size Ds W
 size:B0≤W.heap.size
def SX (w:World) (g10 g11:Nat) (aK:List iD) (s:St) (Ds:List Nat) (c:Code) (pre:List nG) (W:World):Prop :=
 c=.ret∧dA aK s (pre.map (·.1))=none∧aG W g10 36 #[.slice none 0 0]∧aG W g11 41 #[.int .i64 360]∧Ext w W∧dW w.heap.size Ds W
theorem AZ {B B0:Nat} {Ds:List Nat} {X Y:World} {row:Option Nat} (h:dW B Ds X) (hlt:∀D∈Ds,D<B0) (hgr:X.grownBy Y row) (hr:∀r,row=some r→B0≤r∧∃o:Obj,X.heap[r]?=some o∧o.isCells=false):dW B Ds Y :=
 ⟨h.nodup,fun D hD=>⟨(h.ok D hD).1,(hgr.block D (h.lt D hD) (fun e=>by have:=(hr D e.symm).1;have:=hlt D hD;omega)).trans (h.ok D hD).2⟩⟩
theorem si_own {w:World} {g6 g8 g10 g11 g13:Nat} {P:Array Value} {TA:Option Addr} {tn tc:Nat} {a b:Int} {aK:List iD} {s:St} {AP:List bP} {Ds:List Nat} {v0:Value} {B0:Nat} (hw:w.heap.size≤B0) (hlt:∀D∈Ds,D<B0):OwnFrom B0 (SI w g6 g8 g10 g11 g13 P TA tn tc a b aK s AP Ds v0 B0):=by
 rintro pre X Y row ⟨k6,k8,k13,⟨v,p,r0,r1,r2,r3,r4⟩,k11,hb,hm,hz⟩ hgr hr;exact⟨bF k6 hgr hr,bF k8 hgr hr,bF k13 hgr hr,⟨v,p,r0,bF r1 hgr hr,iH r2 hgr hr,r3,r4⟩,bF k11 hgr hr,hb.grown hgr hb.size (fun k e=>Nat.le_trans hw (hr k e).1),AZ hm hlt hgr hr,Nat.le_trans hz hgr.size⟩
theorem sx_own {w:World} {g10 g11:Nat} {aK:List iD} {s:St} {Ds:List Nat} {B0:Nat} (hw:w.heap.size≤B0) (hlt:∀D∈Ds,D<B0) (c:Code):OwnFrom B0 (SX w g10 g11 aK s Ds c):=by
 rintro pre X Y row ⟨h0,h1,k1,k2,hb,hm⟩ hgr hr;exact⟨h0,h1,bF k1 hgr hr,bF k2 hgr hr,hb.grown hgr hb.size (fun k e=>Nat.le_trans hw (hr k e).1),AZ hm hlt hgr hr⟩
theorem oh {F:Fence} {n:Nat} {P:Program} {ops:Array Oper} {rest:List Oper} {op:Oper} {a:Act} {w:World} {Q:Exit→Act→World→Prop} (hgd:op.guard=none) (ty:TypeId) (x y:Operand) (ho:op.op=.store ty x y)
  (b o:Nat) (X:Array Value) (cs:List Value) (hX:cs.toArray=X) (hx:a.eval x=.pointer (some ⟨b,o,none⟩)) (hy:a.eval y=.agg X)
  (ht:w.there b o cs.length) (hi:(P.info? ty).map (·.size)=some cs.length) (h1:∀v∈cs,v.oneCell'=true)
  (h:wpListIn F n P ops Q rest (a.put op.dst undef) (w.setCells b o cs)):wpListIn F n P ops Q (op::rest) a w:=by
 subst hX;refine wpListIn_plain hgd fun K hK=>?_;unfold Oper.wpIn;refine⟨?_,?_⟩
 ·simp[Oper.about,ho]
 ·rw[Oper.semAt_plain F _ _ (by rw[ho];intro c hc';cases hc')];unfold execOp;simp only[ho,hx,hy,Instr.storeAt,Instr.sureAddr,Sem.run_bind,Sem.run_pure,Result.andThen_ok,run_storeVar_mid (P:=P) w b o ty cs.toArray (by simpa using ht) (by simpa using hi) (all_oneCell_toArray h1)];exact hK _ _ (by simpa using h)
theorem aG.Le {w:World} {g:Nat} {t:TypeId} {X:Array Value} (h:aG w g t X) (o k:Nat) (hk:o+k≤X.size):w.there g o k:=fun j hj=>by
 refine⟨?_,h.frozen _⟩;rw[h.cell,Array.getElem?_eq_getElem (by omega)];simp
theorem NR {w:World} {g:Nat} (s:St) (o:iM) (h:aG w g 53 (aC s).toArray):aG (w.setCells g 2 (aN o)) g 53 (aC (nH s o)).toArray:=by
 obtain⟨p,f,lo,hi,no,tu,sl⟩:=o;obtain⟨id,ow,⟨p',f',lo',hi',no',tu',sl'⟩,wi,st,ch,su,rH,sh,se,wa,co,ho,sw,ra⟩:=s;have h2:=((((((h.cZ 2 (.int .i64 p)).cZ 3 (.int .i64 f)).cZ 4 (.int .i64 lo)).cZ 5 (.int .i64 hi)).cZ 6 (.int .i64 no)).cZ 7 (.int .i64 tu)).cZ 8 (.int .i64 sl);simp only[aC,List.setIfInBounds_toArray,List.set_cons_zero,List.set_cons_succ]at h2;exact h2
theorem vX {A:World} {g:Nat} (hg:A.heap.size≤g):∀(cs:List Value) (o:Nat) (W:World),Ext A W→Ext A (W.setCells g o cs):=by
 intro cs
 induction cs with
 |nil=>intro o W h;exact h
 |cons v r ih=>intro o W h;exact ih (o+1) _ (h.setCell (p:=⟨g,o,none⟩) hg v)
theorem A_ {X Y:World} (h:Ext X Y):KeepsOthers X Y:=⟨h.size,fun j _ hj _=>(h.block j (Array.getElem?_eq_some_iff.1 hj).1).trans hj⟩
theorem Ba {aK:List iD} {s:St} {pre xs:List Str} (h:pre <+: xs) (hn:dA aK s pre=none):dA aK s xs=none:=by
 obtain⟨r,rfl⟩:=h;rw[DX,hn]
theorem Ik {aK:List iD} {l:List fE} {sp:iO} {kn:Int} {sats:List St} {k:Nat} (hk:k<sats.length) (h:dA aK sats[k] (oW sats[k] l sp kn)=none):jF aK l sp kn sats=none:=by
 have e:sats=sats.take k++(sats[k]::sats.drop (k+1)):=by simp
 rw[e,NQ,jF];simp only[h]at *;cases jF aK l sp kn (sats.take k)<;>simp_all
theorem Il (o:iM):∀u∈aN o,u.oneCell'=true:=by simp[aN,Value.oneCell']
end Go.Proofs.YtjidhhfabfnhnaaGreat
