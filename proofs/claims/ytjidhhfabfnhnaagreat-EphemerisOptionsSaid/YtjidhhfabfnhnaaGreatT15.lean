/- Lists that are valid: isList (printed by contact_a14.py). -/
import Derived.Test.YtjidhhfabfnhnaaGreatT14
import Derived.Test.YtjidhhfabfnhnaaGreatT01
import Derived.Test.YtjidhhfabfnhnaaGreatT04
namespace Go.Proofs.YtjidhhfabfnhnaaGreat
open Go.RowKit
inductive BS {α:Type} (lt:α→α→Bool) (q:Nat):List α→List α→Prop
 |one (l:List α):l.length≤q→BS lt q l (bM lt l)
 |cons (x r c:List α):x.length=q→BS lt q r c→BS lt q (x++r) (bM lt x++c)
theorem BS.len {α:Type} {lt:α→α→Bool} {q:Nat} {r c:List α} (h:BS lt q r c):c.length=r.length:=by
 induction h with
 |one l _=>exact cu lt l
 |cons x r c _ _ ih=>rw[List.length_append,List.length_append,cu,ih]
theorem BS.nil {α:Type} {lt:α→α→Bool} {q:Nat} : BS lt q [] []:=BS.one [] (Nat.zero_le _)
theorem BS.short {α:Type} {lt:α→α→Bool} {q:Nat} {r c:List α} (h:BS lt q r c) (hl:r.length≤q):c=bM lt r:=by
 cases h with
 |one _ _=>rfl
 |cons x r c hx h2 =>
  rw[List.length_append]at hl;have h0:r=[]:=List.eq_nil_of_length_eq_zero (by omega);have h1:=h2.len;rw[h0]at h1;have h3:c=[]:=List.eq_nil_of_length_eq_zero h1;rw[h0,h3,List.append_nil,List.append_nil]
theorem BS.take {α:Type} {lt:α→α→Bool} {q:Nat} {r c:List α} (h:BS lt q r c) (hl:q≤r.length):∃x r2 c2,r=x++r2∧c=bM lt x++c2∧x.length=q∧BS lt q r2 c2:=by
 cases h with
 |one _ h1=>exact⟨r,[],[],by simp,by simp,by omega,BS.nil⟩
 |cons x r c hx h2=>exact⟨x,r,c,rfl,rfl,hx,h2⟩
theorem DW {α:Type} (lt:α→α→Bool) (D X R:List α) (a b:Nat) (ha:a=D.length) (hb:b=a+X.length):n_ lt (D++X++R) a b=D++bM lt X++R:=by
 subst hb ha;have e1:(D++X++R).take D.length=D:=by rw[List.append_assoc,List.take_left]
 have e2:(D++X++R).drop D.length=X++R:=by rw[List.append_assoc,List.drop_left]
 have e3:(D++X++R).drop (D.length+X.length)=R:=by rw[←List.length_append,List.drop_left]
 rw[n_,e1,e2,e3,show D.length+X.length-D.length=X.length by omega,List.take_left]
set_option maxHeartbeats 8000000 in
set_option maxRecDepth 100000 in
theorem KY (K:Nat) (caps:Array Value) (cv:bP→bP→Int) (eg:∀args w,(callFunc K args).run Tryz.prog w=.ok (.enter K args) w) (hcmp:KC K caps cv) (hsw:SW (ltOf cv)) (base g n c:Nat) (hn:n≤1000000) (l:List bP) (w:World) (hr:aW ak 6 base 75 g n c w (l)) :
  Calls Tryz.prog 106 #[.slice (some ⟨g,0,none⟩) n c,.int .i64 (n:Int),.func (.func K) #[] caps] w
   fun e w'=>e=.returned (.tuple #[])∧aW ak 6 base 75 g n c w' (bM (ltOf cv) l)∧w.grownBy w' (some g):=by
 have hln:=hr.1;have hins:=fun a b l w h1 h2 h3=>H6 K caps cv eg hcmp base g n c a b l w h1 h2 h3 hn;have hsym:=fun P A B S a m b w h1 h2 h3 h5 h6 h7 h8 h9=>WQ K caps cv eg hcmp hsw base g n c hn (A.length+B.length) P A B S a m b w h1 h2 h3 (Nat.le_refl _) h5 h6 h7 h8 h9;have KZ:=Lib.hid hins;have HSYM:=Lib.hid hsym;have Aj:=Lib.hid hsw;have uz:=Lib.hid hln;have HR0:Hid (aW ak 6 base 75 g n c w ([]++l)):=Lib.hid hr;have Vj:Hid (l=[]++l∧([]:List bP).length=0∧([]:List bP).length=0∧∀l2 fin,BS (ltOf cv) 20 l2 fin→BS (ltOf cv) 20 ([]++l2) ([]++fin)):=Lib.hid ⟨rfl,rfl,rfl,fun _ _ h=>h⟩;have vM:=Lib.hid (iQ w (some g));clear hr hcmp hsw hln hins hsym;go_enter Tryz.func106,Tryz.ntmps106;go_wp2;go_loopw [7,8] (fun x y wr=>∃(a:Nat) (l1 l2 dn:List bP),a≤n∧x=.int .i64 a∧y=.int .i64 ((a+20:Nat):Int)∧Hid (l=l1++l2∧l1.length=a∧dn.length=a∧∀l2 fin,BS (ltOf cv) 20 l2 fin→BS (ltOf cv) 20 (l1++l2) (dn++fin))∧Hid (aW ak 6 base 75 g n c wr (dn++l2))∧Hid (w.grownBy wr (some g))) (fun x _ _=>n-(intOf x).toNat)
 case atStart=>exact⟨0,[],l,[],Nat.zero_le _,rfl,rfl,Vj,HR0,vM⟩
 case round =>
  clear Vj HR0 vM;obtain⟨a,l1,l2,dn,han,rfl,rfl,HC,HR,HG⟩:=hrel;obtain⟨wi,hwi⟩:∃wi:World,wi=wr:=⟨_,rfl⟩;rw[←hwi]at HR HG⊢;clear hwi;have hl2:l2.length=n-a:=by have h1:=uz.out;have h2:=HC.out;rw[h2.1]at h1;simp at h1;omega
  by_cases hb:a+20≤n
  ·obtain⟨x,r,hx,hx2⟩:=mY l2 20 (by omega);have hrow:aW ak 6 base 75 g n c wi (dn++x++r):=by have h:=HR.out;rw[hx]at h;simpa using h
   have hi:=KZ.out a (a+20) _ _ hrow (by omega) hb;rw[DW (ltOf cv) dn x r a (a+20) HC.out.2.2.1.symm (by omega)]at hi;have HI:=Lib.hid hi;have HC2:Hid (l=(l1++x)++r∧(l1++x).length=a+20∧(dn++bM (ltOf cv) x).length=a+20∧∀l2 fin,BS (ltOf cv) 20 l2 fin→BS (ltOf cv) 20 ((l1++x)++l2) ((dn++bM (ltOf cv) x)++fin)):=Lib.hid (by
    obtain⟨h1,h2,h3,h4⟩:=HC.out;refine⟨by rw[h1,hx];simp,by simp;omega,by rw[List.length_append,cu];omega,fun q fin hq=>?_⟩;have:=h4 _ _ (BS.cons x q fin hx2 hq);simpa using this)
   have hw1:IntKind.i64.wrap (((a+20:Nat):Int)+20)=((a+20+20:Nat):Int):=by rw[show ((a+20:Nat):Int)+20=((a+20+20:Nat):Int) by omega];exact IntWalk.i64_in _ (by omega)
   have hbi:((a+20:Nat):Int)≤(n:Int):=by omega
   clear hi hrow HC HR hl2 hx hx2;obtain⟨a2,ha2⟩:∃a2,a2=a+20:=⟨_,rfl⟩;rw[←ha2]at HI HC2 hw1 hbi hb⊢;have ha3:a<a2:=by omega
   clear ha2;go_wp2_with fail;refine HI.out.mono ?_;rintro e w2 ⟨rfl,h1,h2⟩;have HR2:Hid (aW ak 6 base 75 g n c w2 ((dn++bM (ltOf cv) x)++r)):=Lib.hid (by simpa using h1);have HG2:=Lib.hid (bD HG.out h2);clear h1 h2 HI;go_wp2;go_roundw
   case rel=>exact⟨a2,_,_,_,hb,rfl,rfl,HC2,HR2,HG2⟩
   case measure=>simp[intOf];omega
  ·have hi:=KZ.out a n (dn++l2++[]) wi (by simpa using HR.out) (by omega) (Nat.le_refl _);rw[DW (ltOf cv) dn l2 [] a n HC.out.2.2.1.symm (by omega)]at hi;have HI:=Lib.hid hi;have HB:Hid (BS (ltOf cv) 20 l (dn++bM (ltOf cv) l2)):=Lib.hid (by obtain⟨h1,h2,h3,h4⟩:=HC.out;rw[h1];exact h4 _ _ (BS.one l2 (by omega)));have hbi:¬(((a+20:Nat):Int)≤(n:Int)):=by omega
   clear hi hl2;obtain⟨a2,ha2⟩:∃a2,a2=a+20:=⟨_,rfl⟩;rw[←ha2]at hbi hb⊢;clear ha2;go_wp2_with fail;refine HI.out.mono ?_;rintro e w2 ⟨rfl,h1,h2⟩;have HR2:Hid (aW ak 6 base 75 g n c w2 (dn++bM (ltOf cv) l2)):=Lib.hid (by simpa using h1);have HG2:=Lib.hid (bD HG.out h2);clear h1 h2 HI HR HG HC hbi hb;generalize dn++bM (ltOf cv) l2=cur0 at HR2 HB;go_wp2;go_loopw [6] (fun x wr=>∃(q:Nat) (cur:List bP),20≤q∧q≤2000000∧x=.int .i64 q∧Hid (BS (ltOf cv) q l cur)∧Hid (aW ak 6 base 75 g n c wr (cur))∧Hid (w.grownBy wr (some g))) (fun x _=>n-(intOf x).toNat)
   case atStart=>exact⟨20,cur0,by omega,by omega,rfl,HB,HR2,HG2⟩
   case round =>
    clear HB HR2 HG2;obtain⟨q,cur,hq1,hq2,rfl,HB,HR,HG⟩:=hrel;obtain⟨wi,hwi⟩:∃wi:World,wi=wr:=⟨_,rfl⟩;rw[←hwi]at HR HG⊢;clear hwi;by_cases hqn:q<n
    ·skip;have Vj:Hid (l=[]++l∧([]:List bP).length=0∧([]:List bP).length=0∧BS (ltOf cv) q l cur∧∀l2 fin,BS (ltOf cv) (2*q) l2 fin→BS (ltOf cv) (2*q) ([]++l2) ([]++fin)):=Lib.hid ⟨rfl,rfl,rfl,HB.out,fun _ _ h=>h⟩;have HR0:Hid (aW ak 6 base 75 g n c wi ([]++cur)):=Lib.hid HR.out;clear HR HB;obtain⟨qq,hqq⟩:∃qq,qq=2*q:=⟨_,rfl⟩;rw[←hqq]at Vj;have hw2:IntKind.i64.wrap (2*(q:Int))=(qq:Int):=by rw[show 2*(q:Int)=(qq:Int) by omega];exact IntWalk.i64_in _ (by omega)
     have hw3:IntKind.i64.wrap ((q:Int)*2)=(qq:Int):=by rw[show (q:Int)*2=(qq:Int) by omega];exact IntWalk.i64_in _ (by omega)
     have hqq1:qq≤2*q:=by omega
     have hqq2:2*q≤qq:=by omega
     clear hqq;go_wp2;go_loopw [7,8] (fun x y wr=>∃(a:Nat) (l1 l2 dn rs:List bP),a≤n∧x=.int .i64 a∧y=.int .i64 ((a+qq:Nat):Int)∧Hid (l=l1++l2∧l1.length=a∧dn.length=a∧BS (ltOf cv) q l2 rs∧∀l2 fin,BS (ltOf cv) qq l2 fin→BS (ltOf cv) qq (l1++l2) (dn++fin))∧Hid (aW ak 6 base 75 g n c wr (dn++rs))∧Hid (w.grownBy wr (some g))) (fun x _ _=>n-(intOf x).toNat)
     case atStart=>exact⟨0,[],l,[],cur,Nat.zero_le _,rfl,by simp,Vj,HR0,HG⟩
     case round =>
      clear Vj HR0 HG;obtain⟨a,l1,l2,dn,rs,han,rfl,rfl,HC,HR,HG⟩:=hrel;obtain⟨wi,hwi⟩:∃wi:World,wi=wr:=⟨_,rfl⟩;rw[←hwi]at HR HG⊢;clear hwi;have hl2:l2.length=n-a:=by have h1:=uz.out;have h2:=HC.out;rw[h2.1]at h1;simp at h1;omega
      have hw4:IntKind.i64.wrap ((a:Int)+(q:Int))=((a+q:Nat):Int):=by rw[show (a:Int)+(q:Int)=((a+q:Nat):Int) by omega];exact IntWalk.i64_in _ (by omega)
      by_cases hb:a+qq≤n
      ·obtain⟨x,r,cr,hx,hcr,hxl,hbr⟩:=HC.out.2.2.2.1.take (by omega);have hrl:r.length=n-a-q:=by rw[hx]at hl2;simp at hl2;omega
       obtain⟨y,r2,c2,hy,hc2,hyl,hb2⟩:=hbr.take (by omega);have hi:=HSYM.out dn (bM (ltOf cv) x) (bM (ltOf cv) y) c2 a (a+q) (a+qq) wi HC.out.2.2.1.symm (by rw[cu];omega) (by rw[cu];omega) (by rw[cu];omega) (by rw[cu];omega) (kR Aj.out _) (kR Aj.out _) (by have h:=HR.out;rw[hcr,hc2]at h;simpa using h);rw[yG Aj.out]at hi;have HI:=Lib.hid hi;have HC2:Hid (l=(l1++(x++y))++r2∧(l1++(x++y)).length=a+qq∧(dn++bM (ltOf cv) (x++y)).length=a+qq∧BS (ltOf cv) q r2 c2∧∀l2 fin,BS (ltOf cv) qq l2 fin→BS (ltOf cv) qq ((l1++(x++y))++l2) ((dn++bM (ltOf cv) (x++y))++fin)):=Lib.hid (by
        obtain⟨h1,h2,h3,_,h4⟩:=HC.out;refine⟨by rw[h1,hx,hy];simp,by simp;omega,by rw[List.length_append,cu];simp;omega,hb2,fun z fin hz=>?_⟩;have:=h4 _ _ (BS.cons (x++y) z fin (by simp;omega) hz);simpa using this)
       have hbi:((a+qq:Nat):Int)≤(n:Int):=by omega
       have hw1:IntKind.i64.wrap (((a+qq:Nat):Int)+(qq:Int))=((a+qq+qq:Nat):Int):=by rw[show ((a+qq:Nat):Int)+(qq:Int)=((a+qq+qq:Nat):Int) by omega];exact IntWalk.i64_in _ (by omega)
       clear hi HC HR hl2 hx hxl hcr hbr hrl hy hc2 hyl hb2;obtain⟨a2,ha2⟩:∃a2,a2=a+qq:=⟨_,rfl⟩;obtain⟨a3,ha3⟩:∃a3,a3=a+q:=⟨_,rfl⟩;rw[←ha2]at HI HC2 hw1 hbi hb⊢;rw[←ha3]at HI hw4;have ha4:a<a2:=by omega
       clear ha2 ha3;go_wp2_with fail;refine HI.out.mono ?_;rintro e w2 ⟨rfl,h1,h2⟩;have HR2:Hid (aW ak 6 base 75 g n c w2 ((dn++bM (ltOf cv) (x++y))++c2)):=Lib.hid (by simpa using h1);have HG2:=Lib.hid (bD HG.out h2);clear h1 h2 HI;go_wp2;go_roundw
       case rel=>exact⟨a2,_,_,_,_,hb,rfl,rfl,HC2,HR2,HG2⟩
       case measure=>simp[intOf];omega
      ·have hbi:¬(((a+qq:Nat):Int)≤(n:Int)):=by omega
       have hqqm:qq≤2000000:=by omega
       by_cases hm:a+q<n
       ·obtain⟨x,r,cr,hx,hcr,hxl,hbr⟩:=HC.out.2.2.2.1.take (by omega);have hrl:r.length=n-a-q:=by rw[hx]at hl2;simp at hl2;omega
        have hcr2:=hbr.short (by omega);have hi:=HSYM.out dn (bM (ltOf cv) x) (bM (ltOf cv) r) [] a (a+q) n wi HC.out.2.2.1.symm (by rw[cu];omega) (by rw[cu];omega) (by rw[cu];omega) (by rw[cu];omega) (kR Aj.out _) (kR Aj.out _) (by have h:=HR.out;rw[hcr,hcr2]at h;simpa using h);rw[yG Aj.out]at hi;have HI:=Lib.hid hi;have HB2:Hid (BS (ltOf cv) qq l (dn++bM (ltOf cv) (x++r))):=Lib.hid (by obtain⟨h1,h2,h3,_,h4⟩:=HC.out;rw[h1,hx];exact h4 _ _ (BS.one (x++r) (by simp;omega)));have hmi:((a+q:Nat):Int)<(n:Int):=by omega
        clear hi HC HR hl2 hx hxl hcr hbr hrl hcr2;obtain⟨a2,ha2⟩:∃a2,a2=a+qq:=⟨_,rfl⟩;obtain⟨a3,ha3⟩:∃a3,a3=a+q:=⟨_,rfl⟩;rw[←ha2]at hbi hb⊢;rw[←ha3]at HI hw4 hmi hm;clear ha2 ha3;go_wp2_with fail;refine HI.out.mono ?_;rintro e w2 ⟨rfl,h1,h2⟩;have HR2:Hid (aW ak 6 base 75 g n c w2 (dn++bM (ltOf cv) (x++r))):=Lib.hid (by simpa using h1);have HG2:=Lib.hid (bD HG.out h2);clear h1 h2 HI;go_wp2;go_roundw
        case rel=>exact⟨qq,_,by omega,hqqm,rfl,HB2,HR2,HG2⟩
        case measure=>simp[intOf];omega
       ·have hs:=HC.out.2.2.2.1.short (by omega);have HB2:Hid (BS (ltOf cv) qq l (dn++rs)):=Lib.hid (by obtain⟨h1,h2,h3,_,h4⟩:=HC.out;rw[h1,hs];exact h4 _ _ (BS.one l2 (by omega)));have hmi:¬(((a+q:Nat):Int)<(n:Int)):=by omega
        clear hs hl2 HC;obtain⟨a2,ha2⟩:∃a2,a2=a+qq:=⟨_,rfl⟩;obtain⟨a3,ha3⟩:∃a3,a3=a+q:=⟨_,rfl⟩;rw[←ha2]at hbi hb⊢;rw[←ha3]at hw4 hmi hm;clear ha2 ha3;go_wp2;go_roundw
        case rel=>exact⟨qq,_,by omega,hqqm,rfl,HB2,HR,HG⟩
        case measure=>simp[intOf];omega
    ·have hfin:aW ak 6 base 75 g n c wi (bM (ltOf cv) l):=by
      have h1:=HB.out.short (by have:=uz.out;omega);have h:=HR.out;rw[h1]at h;exact h
     have HF:=Lib.hid hfin;clear hfin;go_wp2;go_end0;exact⟨rfl,HF.out,HG.out⟩
theorem Ih (K:Nat) (caps:Array Value) (cv:bP→bP→Int) (eg:∀args w,(callFunc K args).run Tryz.prog w=.ok (.enter K args) w) (hcmp:KC K caps cv) (hsw:SW (ltOf cv)) (base g n c:Nat) (hn:n≤1000000) (l:List bP) (w:World) (hr:aW ak 6 base 75 g n c w (l)) :
  Calls Tryz.prog 49 #[.slice (some ⟨g,0,none⟩) n c,.func (.func K) #[] caps] w
   fun e w'=>e=.returned (.tuple #[])∧aW ak 6 base 75 g n c w' (bM (ltOf cv) l)∧w.grownBy w' (some g):=by
 have HI:=Lib.hid (KY K caps cv eg hcmp hsw base g n c hn l w hr);clear hr hcmp hsw;go_enter Tryz.func49,Tryz.ntmps49;go_wp2_with fail;refine HI.out.mono ?_;rintro e w2 ⟨rfl,h1,h2⟩;go_wp2;go_end0;exact⟨rfl,h1,h2⟩
end Go.Proofs.YtjidhhfabfnhnaaGreat
namespace Go.Proofs.YtjidhhfabfnhnaaGreat
open Go.RowKit
theorem YR (id x y re an sk:Int) (w:World) :
  Calls Tryz.prog 104 #[.agg #[.int .i64 id,.int .i64 x,.int .i64 y,.int .i64 re,.int .i64 an,.int .i64 sk]] w fun e w'=>e=.returned (.int .i64 id)∧Below w.heap.size w w':=by
 go_enter Tryz.func104,Tryz.ntmps104;go_wp2;go_ret;exact⟨rfl,(by repeat (first | exact Below.refl _ _ | assumption | refine Below.drew ?_ | refine below_drewN ?_ _ | refine aj ?_ _ | refine Below.setCell ?_ (by first | (simp;done) | omega | (simp;omega)) _ | refine aA ?_ (by assumption)))⟩
set_option maxHeartbeats 4000000 in
theorem OJ (l:List iD) (A:Option Addr) (n c:Nat) (w:World) (h:RA bJ 6 w w.heap.size A n c l) :
  Calls Tryz.prog 103 #[.slice A n c,.int .i64 12,.func (.func 62) #[] #[],.func (.func 104) #[] #[]] w fun e w'=>e=.returned (.bool (gU l))∧Below w.heap.size w w':=by
 have HR:=Lib.hid h;have hle:=h.le;have hlen:=h.len;have HL:=Lib.hid hlen;have hs:gU l=(decide (n≤12)&&dH fZ (·.id) none l):=by rw[gU,hlen]
 rw[hs];clear h hs hlen;by_cases hm:n≤12
 ·have hd:decide (n≤12)=true:=by simpa using hm
  rw[hd,Bool.true_and];clear hd;have hrl:dH fZ (·.id) none l=dH fZ (·.id) (aV l 0) (l.drop 0):=by simp[aV]
  have HQ:=Lib.hid hrl;clear hrl;go_enter Tryz.func103,Tryz.ntmps103;go_wp2;go_loopw [17] (fun i wr=>∃k:Nat,k≤n∧i=.int .i64 k∧Hid (dH fZ (·.id) none l=dH fZ (·.id) (aV l k) (l.drop k))∧Below w.heap.size w wr) (fun i _=>n-(intOf i).toNat)
  case atStart=>exact⟨0,Nat.zero_le _,rfl,HQ,Below.refl _ _⟩
  case round =>
   clear HQ;obtain⟨k,hk,rfl,HK,hB⟩:=hrel;by_cases hlt:k<n
   ·obtain⟨b,o,hz,hA,hbl,hc⟩:=RA.at_ tq (HR.out.below hB) hlt;have hst:=nT fZ (fun x=>x.id) l k hz;rw[←HK.out]at hst;generalize hx:l[k]=x at hst hc;obtain⟨id,⟨x,y⟩,re,an,sk⟩:=x;have c0:wr.cell? ⟨b,o+k*6,none⟩=some (.int .i64 id):=hc 0 (by omega);have c1:wr.cell? ⟨b,o+k*6+1,none⟩=some (.int .i64 x):=hc 1 (by omega);have c2:wr.cell? ⟨b,o+k*6+2,none⟩=some (.int .i64 y):=hc 2 (by omega);have c3:wr.cell? ⟨b,o+k*6+3,none⟩=some (.int .i64 re):=hc 3 (by omega);have c4:wr.cell? ⟨b,o+k*6+4,none⟩=some (.int .i64 an):=hc 4 (by omega);have c5:wr.cell? ⟨b,o+k*6+5,none⟩=some (.int .i64 sk):=hc 5 (by omega);have HV:=Lib.hid (CO id x y re an sk);generalize fZ ⟨id,⟨x,y⟩,re,an,sk⟩=q at hst HV;dsimp only at hst;have HS:=Lib.hid hst;clear hst hc HK;subst hA;have hblt:b<w.heap.size:=hbl;go_wp2_with fail;have K:=aG.new wr 71 #[.int .i64 id,.int .i64 x,.int .i64 y,.int .i64 re,.int .i64 an,.int .i64 sk];have hB1:Below w.heap.size w (wr.alloc (.cells #[.int .i64 id,.int .i64 x,.int .i64 y,.int .i64 re,.int .i64 an,.int .i64 sk] 71)):=aj hB _;have hg1:w.heap.size≤wr.heap.size:=hB.size;have hx1:Ext wr (wr.alloc (.cells #[.int .i64 id,.int .i64 x,.int .i64 y,.int .i64 re,.int .i64 an,.int .i64 sk] 71)):=aj (Below.refl _ _) _;generalize wr.alloc (.cells #[.int .i64 id,.int .i64 x,.int .i64 y,.int .i64 re,.int .i64 an,.int .i64 sk] 71)=W at K hB1 hx1⊢;have kC:=Lib.hid hx1;clear hx1;have g0:W.cell? ⟨wr.heap.size,0,none⟩=some (.int .i64 id):=K.cell 0;have g1:W.cell? ⟨wr.heap.size,1,none⟩=some (.int .i64 x):=K.cell 1;have g2:W.cell? ⟨wr.heap.size,2,none⟩=some (.int .i64 y):=K.cell 2;have g3:W.cell? ⟨wr.heap.size,3,none⟩=some (.int .i64 re):=K.cell 3;have g4:W.cell? ⟨wr.heap.size,4,none⟩=some (.int .i64 an):=K.cell 4;have g5:W.cell? ⟨wr.heap.size,5,none⟩=some (.int .i64 sk):=K.cell 5;cases q
    ·skip;refine aF 21 [some (.func (.func 62) #[] #[]),some (.agg #[.int .i64 id,.int .i64 x,.int .i64 y,.int .i64 re,.int .i64 an,.int .i64 sk]),some (.bool false),some (.bool true),some (.bool true),some (undef),some (undef),some (undef),some (undef),some (undef),some (undef),some (undef),some (undef),some (undef),some (undef),some (undef),some (undef),some (undef),some (undef),some (undef),some (.bool true)] [] ?_ ?_ ?_
     ·trivial
     ·refine⟨?_,?_,?x2,?_,?_,?_,?_,?_,?_,?_,?_,?_,?_,?_,?_,?_,?_,?_,?_,?_,?_,trivial⟩
      case x2 =>
       intro vals w1 hx hd;clear hd;simp only[Lf,au,Act.put,bH,bG];go_wp2_with fail;refine (HV.out _).mono ?_;rintro e w2 ⟨rfl,hb2⟩;go_wp2;exact⟨rfl,hb2,rfl⟩
      all_goals
       intro vals w1 hx hd;clear hd;simp only[Lf,au,Act.put,bH,bG];have g0:=ah hx g0;have g1:=ah hx g1;have g2:=ah hx g2;have g3:=ah hx g3;have g4:=ah hx g4;have g5:=ah hx g5;go_wp2;exact iq
     intro vals w5 hx hf;have e20:vals 20=.bool true:=hf 20 (by omega);clear hf;have hx:=hx.aH;have iJ:=aA hB1 hx;refine dO (by kernel_rfl) ?_;simp only[Lf,au,Act.put,FR_];rw[e20];clear e20 g0 g1 g2 g3 g4 g5;go_wp2;go_ret;exact⟨by rw[HS.out];rfl,iJ⟩
    ·by_cases hk0:k=0
     ·have hk0':(k:Int)≤0:=by omega
      have hpv:aV l k=none:=by simp[aV,hk0]
      have HP:=Lib.hid hpv;have zN:=Lib.hid hk0;have hkd:decide (0<k)=false:=by simp;omega
      clear hpv hk0;refine aF 21 [some (.func (.func 62) #[] #[]),some (.agg #[.int .i64 id,.int .i64 x,.int .i64 y,.int .i64 re,.int .i64 an,.int .i64 sk]),some (.bool true),some (.bool false),some (.bool false),some (.int .i64 (k:Int)),some (.bool false),some (.bool false),some (undef),some (undef),some (undef),some (undef),some (undef),some (undef),some (undef),some (undef),some (undef),some (undef),some (undef),some (.bool false),some (.bool false)] [] ?_ ?_ ?_
      ·trivial
      ·refine⟨?_,?_,?x2,?_,?_,?_,?_,?_,?_,?_,?_,?_,?_,?_,?_,?_,?_,?_,?_,?_,?_,trivial⟩
       case x2 =>
        intro vals w1 hx hd;clear hd;simp only[Lf,au,Act.put,bH,bG];go_wp2_with fail;refine (HV.out _).mono ?_;rintro e w2 ⟨rfl,hb2⟩;go_wp2;exact⟨rfl,hb2,rfl⟩
       all_goals
        intro vals w1 hx hd;clear hd;simp only[Lf,au,Act.put,bH,bG];have g0:=ah hx g0;have g1:=ah hx g1;have g2:=ah hx g2;have g3:=ah hx g3;have g4:=ah hx g4;have g5:=ah hx g5;go_wp2;exact iq
      intro vals w5 hx hf;have e20:vals 20=.bool false:=hf 20 (by omega);clear hf;have hx:=hx.aH;have iJ:=aA hB1 hx;refine dO (by kernel_rfl) ?_;simp only[Lf,au,Act.put,FR_];rw[e20];clear e20 g0 g1 g2 g3 g4 g5;go_wp2;go_roundw
      case rel=>exact⟨k+1,by omega,by go_num,Lib.hid (by rw[HS.out,HP.out];rfl),iJ⟩
      case measure=>simp[intOf];omega
     ·have hk1:(0:Int)<(k:Int):=by omega
      obtain⟨b',o',hz',hA',uO,hc'⟩:=RA.at_ tq (HR.out.below hB) (k:=k-1) (by omega);obtain⟨rfl,rfl⟩:b'=b∧o'=o:=by injection hA' with hA';injection hA' with h1 h2;exact⟨h1.symm,h2.symm⟩
      have hpv:aV l k=some l[k-1]:=by unfold aV;rw[if_neg hk0,List.getElem?_eq_getElem hz']
      generalize l[k-1]=y at hpv hc';obtain⟨Az,⟨y_x,y_y⟩,y_re,y_an,y_sk⟩:=y;have d0:wr.cell? ⟨b',o'+(k-1)*6,none⟩=some (.int .i64 Az):=hc' 0 (by omega);have d1:wr.cell? ⟨b',o'+(k-1)*6+1,none⟩=some (.int .i64 y_x):=hc' 1 (by omega);have d2:wr.cell? ⟨b',o'+(k-1)*6+2,none⟩=some (.int .i64 y_y):=hc' 2 (by omega);have d3:wr.cell? ⟨b',o'+(k-1)*6+3,none⟩=some (.int .i64 y_re):=hc' 3 (by omega);have d4:wr.cell? ⟨b',o'+(k-1)*6+4,none⟩=some (.int .i64 y_an):=hc' 4 (by omega);have d5:wr.cell? ⟨b',o'+(k-1)*6+5,none⟩=some (.int .i64 y_sk):=hc' 5 (by omega);have HP:=Lib.hid hpv;have zN:=Lib.hid hk0;clear hpv hc' hA' uO hk0;have hki:IntKind.i64.wrap ((k:Int)-1)=(k:Int)-1:=IntWalk.i64_in _ (by omega);have hkn:((k:Int)-1).toNat=k-1:=by omega
      have hkd:decide (0<k)=true:=by simp;omega
      have d0:=ah kC.out d0;have d1:=ah kC.out d1;have d2:=ah kC.out d2;have d3:=ah kC.out d3;have d4:=ah kC.out d4;have d5:=ah kC.out d5;refine aF 21 [some (.func (.func 62) #[] #[]),some (.agg #[.int .i64 id,.int .i64 x,.int .i64 y,.int .i64 re,.int .i64 an,.int .i64 sk]),some (.bool true),some (.bool false),some (.bool false),some (.int .i64 (k:Int)),some (.bool true),some (.bool true),some (.func (.func 104) #[] #[]),some (.agg #[.int .i64 id,.int .i64 x,.int .i64 y,.int .i64 re,.int .i64 an,.int .i64 sk]),some (.int .i64 id),some (.func (.func 104) #[] #[]),some (.slice (some ⟨b',o',none⟩) n c),some (.int .i64 (k:Int)),some (.int .i64 ((k:Int)-1)),some (.pointer (some ⟨b',o'+(k-1)*6,none⟩)),some (.agg #[.int .i64 Az,.int .i64 y_x,.int .i64 y_y,.int .i64 y_re,.int .i64 y_an,.int .i64 y_sk]),some (.int .i64 Az),some (.bool (decide (id≤Az))),some (.bool (decide (id≤Az))),some (.bool (decide (id≤Az)))] [] ?_ ?_ ?_
      ·trivial
      ·refine⟨?_,?_,?x2,?_,?_,?_,?_,?_,?_,?_,?x10,?_,?_,?_,?_,?_,?_,?x17,?_,?_,?_,trivial⟩
       case x2 =>
        intro vals w1 hx hd;clear hd;simp only[Lf,au,Act.put,bH,bG];go_wp2_with fail;refine (HV.out _).mono ?_;rintro e w2 ⟨rfl,hb2⟩;go_wp2;exact⟨rfl,hb2,rfl⟩
       case x10 =>
        intro vals w1 hx hd;clear hd;simp only[Lf,au,Act.put,bH,bG];go_wp2_with fail;refine (YR id x y re an sk _).mono ?_;rintro e w2 ⟨rfl,hb2⟩;go_wp2;exact⟨rfl,hb2,rfl⟩
       case x17 =>
        intro vals w1 hx hd;clear hd;simp only[Lf,au,Act.put,bH,bG];go_wp2_with fail;refine (YR Az y_x y_y y_re y_an y_sk _).mono ?_;rintro e w2 ⟨rfl,hb2⟩;go_wp2;exact⟨rfl,hb2,rfl⟩
       all_goals
        intro vals w1 hx hd;clear hd;simp only[Lf,au,Act.put,bH,bG];have g0:=ah hx g0;have g1:=ah hx g1;have g2:=ah hx g2;have g3:=ah hx g3;have g4:=ah hx g4;have g5:=ah hx g5;have d0:=ah hx d0;have d1:=ah hx d1;have d2:=ah hx d2;have d3:=ah hx d3;have d4:=ah hx d4;have d5:=ah hx d5;go_wp2;exact iq
      intro vals w5 hx hf;have e20:vals 20=.bool (decide (id≤Az)):=hf 20 (by omega);clear hf;have hx:=hx.aH;have iJ:=aA hB1 hx;refine dO (by kernel_rfl) ?_;simp only[Lf,au,Act.put,FR_];rw[e20];clear e20 g0 g1 g2 g3 g4 g5 d0 d1 d2 d3 d4 d5;by_cases hid:id≤Az
      ·have mO:decide (Az<id)=false:=by simp;omega
       have HI:=Lib.hid mO;clear mO;go_wp2;go_ret;exact⟨by rw[HS.out,HP.out];simp[HI.out],iJ⟩
      ·have mO:decide (Az<id)=true:=by simp;omega
       have HI:=Lib.hid mO;clear mO;go_wp2;go_roundw
       case rel=>exact⟨k+1,by omega,by go_num,Lib.hid (by rw[HS.out,HP.out];simp[HI.out]),iJ⟩
       case measure=>simp[intOf];omega
   ·go_wp2;go_ret;exact⟨by rw[HK.out,List.drop_of_length_le (by rw[HL.out];omega)];rfl,hB⟩
 ·have hd:decide (n≤12)=false:=by simpa using hm
  rw[hd,Bool.false_and];clear hd;go_enter Tryz.func103,Tryz.ntmps103;go_wp2;go_ret;exact⟨rfl,(by repeat (first | exact Below.refl _ _ | assumption | refine Below.drew ?_ | refine below_drewN ?_ _ | refine aj ?_ _ | refine Below.setCell ?_ (by first | (simp;done) | omega | (simp;omega)) _ | refine aA ?_ (by assumption)))⟩
theorem uH (l:List iD) (A:Option Addr) (n c:Nat) (w:World) (h:RA bJ 6 w w.heap.size A n c l) :
  Calls Tryz.prog 47 #[.slice A n c] w fun e w'=>e=.returned (.bool (gU l))∧Below w.heap.size w w':=by
 have hc:=OJ l A n c w h;generalize gU l=r at hc⊢;have HC:=Lib.hid hc;clear hc h;go_enter Tryz.func47,Tryz.ntmps47;go_wp2_with fail;refine HC.out.mono ?_;rintro e w' ⟨rfl,hb⟩;go_wp2;go_ret;exact⟨rfl,hb⟩
end Go.Proofs.YtjidhhfabfnhnaaGreat
