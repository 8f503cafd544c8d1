/- An option in its box, and the slots that come to it (printed by eph_o3a.py). -/
import Derived.Test.YtjidhhfabfnhnaaGreatT01
import Derived.Test.YtjidhhfabfnhnaaGreatT26
import Derived.Test.YtjidhhfabfnhnaaGreatT25
import Derived.Test.YtjidhhfabfnhnaaGreatT22
import Derived.BigQuiet
import Derived.Test.YtjidhhfabfnhnaaGreatT02
import Derived.Laws.Rows
namespace Go.Proofs.YtjidhhfabfnhnaaGreat
open Go.RowKit
def jh:Option bP→List bP→Bool
 |_,[]=>true
 |p,x::r=>fQ x&&(match p with | none=>true | some y=>!ltOf aU x y)&&jh (some x) r
theorem F7 (l:List bP) (y:bP):jh (some y) l=(l.all fQ&&fJ (y::l)):=by
 induction l generalizing y with
 |nil=>rfl
 |cons x r ih =>
  rw[jh,ih,List.all_cons,fJ]
  show (fQ x&&!decide (aU x y<0)&&_)=_
  generalize fQ x=a;generalize (!decide (aU x y<0))=b;generalize r.all fQ=c;generalize fJ (x::r)=d;cases a<;>cases b<;>cases c<;>cases d<;>rfl
theorem Md (l:List bP):iE l=(decide (l.length≤64)&&jh none l):=by
 unfold iE;cases l with
 |nil=>rfl
 |cons x r =>
  rw[jh,F7,List.all_cons];generalize fQ x=a;generalize r.all fQ=c;generalize fJ (x::r)=d;generalize decide ((x::r).length≤64)=e;cases a<;>cases c<;>cases d<;>cases e<;>rfl
theorem F8 (l:List bP) (k:Nat) (h:k<l.length) :
  jh (aV l k) (l.drop k)=(fQ l[k]&&(match aV l k with | none=>true | some y=>!ltOf aU l[k] y)&&jh (aV l (k+1)) (l.drop (k+1))):=by
 have hp:aV l (k+1)=some l[k]:=by simp[aV,h]
 rw[List.drop_eq_getElem_cons h,hp];cases aV l k<;>rfl
theorem Me (sa sn a b c d:Int):fQ ⟨sa,sn,⟨a,b⟩,⟨c,d⟩⟩=(inB sa 0 23&&inB sn 0 11&&decide (0≤c)&&decide (c<d)&&decide (d≤1000001)&&(decide (a=0∧b=0)||(decide (c≤a)&&decide (a<b)&&decide (b≤d)))):=by
 simp only[fQ,Nc,iO.mk.injEq,Bool.decide_and,Bool.and_assoc]
theorem Un (a b:Int) (w:World):(binOp .eql 32 (.agg #[.int .i64 a,.int .i64 b]) (.agg #[.int .i64 0,.int .i64 0])).run Tryz.prog w=.ok (.bool (decide (a=0∧b=0))) w:=by
 have u3:=Tryz.underlying3;have hS:Tryz.prog.underlying 32=some (.struct (Tryz.prog.fieldsOf 32)):=by kernel_rfl
 have hp:Tryz.prog.stoodInHeld 32=false:=by kernel_rfl
 rw[run_eql_struct,show (10000:Nat)=9999+1 from rfl,run_equalIn_agg w 9999 32 _ _ hS hp];clear hS hp;simp only[Program.fieldsOf,Tryz.underlying32];go_simp
 by_cases h0:a=0<;>by_cases h1:b=0<;>simp[h0,h1]
set_option maxRecDepth 100000 in
set_option maxHeartbeats 8000000 in
theorem IV (l:List bP) (A:Option Addr) (n c:Nat) (w:World) (h:RA ak 6 w w.heap.size A n c l) :
  Calls Tryz.prog 85 #[.slice A n c] w fun e w'=>e=.returned (.bool (iE l))∧Below w.heap.size w w':=by
 have HR:=Lib.hid h;have hle:=h.le;have HL:=Lib.hid h.len;have hpp:iE l=(decide (n≤64)&&jh none l):=by rw[Md,h.len]
 rw[hpp];clear h hpp;by_cases hn:n≤64
 ·have hd:decide (n≤64)=true:=by simpa using hn
  rw[hd,Bool.true_and];clear hd;have hrl:jh none l=jh (aV l 0) (l.drop 0):=by simp[aV]
  have HQ:=Lib.hid hrl;clear hrl;go_enter Tryz.func85,Tryz.ntmps85;go_wp2;go_loopw [3] (fun i wr=>∃k:Nat,k≤n∧i=.int .i64 k∧Hid (jh none l=jh (aV l k) (l.drop k))∧Below w.heap.size w wr) (fun i _=>n-(intOf i).toNat)
  case atStart=>exact⟨0,Nat.zero_le _,rfl,HQ,Below.refl _ _⟩
  case round =>
   clear HQ;obtain⟨k,hk,rfl,HK,hB⟩:=hrel;by_cases hlt:k<n
   ·obtain⟨b_,o,hz,hA,hbl,hc⟩:=(HR.out.below hB).at_ bg hlt;have hst:=F8 l k hz;rw[←HK.out]at hst;generalize l[k]=x at hst hc;obtain⟨sa,sn,⟨a,b⟩,⟨c',d⟩⟩:=x;have v0:wr.cell? ⟨b_,o+k*6,none⟩=some (.int .i64 sa):=hc 0 (by omega);have v1:wr.cell? ⟨b_,o+k*6+1,none⟩=some (.int .i64 sn):=hc 1 (by omega);have v2:wr.cell? ⟨b_,o+k*6+2,none⟩=some (.int .i64 a):=hc 2 (by omega);have v3:wr.cell? ⟨b_,o+k*6+3,none⟩=some (.int .i64 b):=hc 3 (by omega);have v4:wr.cell? ⟨b_,o+k*6+4,none⟩=some (.int .i64 c'):=hc 4 (by omega);have v5:wr.cell? ⟨b_,o+k*6+5,none⟩=some (.int .i64 d):=hc 5 (by omega);rw[Me]at hst;have HS:=Lib.hid hst;clear hst hc HK;subst hA;have hblt:b_<w.heap.size:=hbl;go_upto_region 7 with (fail);obtain⟨gb,hgb⟩:∃g,g=wr.heap.size:=⟨_,rfl⟩;have K:aG (wr.alloc (.cells #[.int .i64 sa,.int .i64 sn,.int .i64 a,.int .i64 b,.int .i64 c',.int .i64 d] 75)) gb 75 #[.int .i64 sa,.int .i64 sn,.int .i64 a,.int .i64 b,.int .i64 c',.int .i64 d]:=aG.bC _ _ _ hgb.symm;have hx1:Ext wr (wr.alloc (.cells #[.int .i64 sa,.int .i64 sn,.int .i64 a,.int .i64 b,.int .i64 c',.int .i64 d] 75)):=aj (Below.refl _ _) _;rw[←hgb];generalize wr.alloc (.cells #[.int .i64 sa,.int .i64 sn,.int .i64 a,.int .i64 b,.int .i64 c',.int .i64 d] 75)=W1 at K hx1⊢;have hB1:Below w.heap.size w W1:=aA hB hx1;have kC:=Lib.hid hx1;have g0:W1.cell? ⟨gb,0,none⟩=some (.int .i64 sa):=K.cell 0;have g1:W1.cell? ⟨gb,1,none⟩=some (.int .i64 sn):=K.cell 1;have g2:W1.cell? ⟨gb,2,none⟩=some (.int .i64 a):=K.cell 2;have g3:W1.cell? ⟨gb,3,none⟩=some (.int .i64 b):=K.cell 3;have g4:W1.cell? ⟨gb,4,none⟩=some (.int .i64 c'):=K.cell 4;have g5:W1.cell? ⟨gb,5,none⟩=some (.int .i64 d):=K.cell 5;clear K hx1 hgb v0 v1 v2 v3 v4 v5;cases e1:inB sa 0 23
    ·have E1:=Lib.hid e1;clear e1;go_wp2_with (go_at_call 139;refine (jg _ _ _ _).mono ?_;rintro e w' ⟨rfl,rfl⟩;first | rw[E1.out]);go_ret;exact⟨by rw[HS.out,E1.out];rfl,hB1⟩
    cases e2:inB sn 0 11
    ·have E1:=Lib.hid e1;have E2:=Lib.hid e2;clear e1 e2;go_wp2_with (go_at_call 139;refine (jg _ _ _ _).mono ?_;rintro e w' ⟨rfl,rfl⟩;first | rw[E1.out] | rw[E2.out]);go_ret;exact⟨by rw[HS.out,E1.out,E2.out];rfl,hB1⟩
    have E1:=Lib.hid e1;have E2:=Lib.hid e2;clear e1 e2;by_cases h3:0≤c'
    case neg =>
     have h3':c'<0:=by omega
     have d3:decide (0≤c')=false:=by simpa using h3'
     have D3:=Lib.hid d3;clear d3;go_wp2_with (go_at_call 139;refine (jg _ _ _ _).mono ?_;rintro e w' ⟨rfl,rfl⟩;first | rw[E1.out] | rw[E2.out]);go_ret;exact⟨by rw[HS.out,E1.out,E2.out,D3.out];rfl,hB1⟩
    have d3:decide (0≤c')=true:=by simpa using h3
    have D3:=Lib.hid d3;have d3:decide (c'<0)=false:=by simp;omega
    by_cases h4:c'<d
    case neg =>
     have h4':d≤c':=by omega
     have d4:decide (c'<d)=false:=by simpa using h4'
     have D4:=Lib.hid d4;clear d4;go_wp2_with (go_at_call 139;refine (jg _ _ _ _).mono ?_;rintro e w' ⟨rfl,rfl⟩;first | rw[E1.out] | rw[E2.out]);go_ret;exact⟨by rw[HS.out,E1.out,E2.out,D3.out,D4.out];rfl,hB1⟩
    have d4:decide (c'<d)=true:=by simpa using h4
    have D4:=Lib.hid d4;have d4:decide (d≤c')=false:=by simp;omega
    by_cases h5:d≤1000001
    case neg =>
     have h5':1000001<d:=by omega
     have d5:decide (d≤1000001)=false:=by simpa using h5'
     have D5:=Lib.hid d5;clear d5;go_wp2_with (go_at_call 139;refine (jg _ _ _ _).mono ?_;rintro e w' ⟨rfl,rfl⟩;first | rw[E1.out] | rw[E2.out]);go_ret;exact⟨by rw[HS.out,E1.out,E2.out,D3.out,D4.out,D5.out];rfl,hB1⟩
    have d5:decide (d≤1000001)=true:=by simpa using h5
    have hnext:jh none l=((decide (a=0∧b=0)||(decide (c'≤a)&&decide (a<b)&&decide (b≤d)))&&(match aV l k with | none=>true | some y=>!ltOf aU ⟨sa,sn,⟨a,b⟩,⟨c',d⟩⟩ y)&&jh (aV l (k+1)) (l.drop (k+1))):=by
     rw[HS.out,E1.out,E2.out,D3.out,D4.out,d5];rfl
    have HN:=Lib.hid hnext;clear hnext HS D3 D4;have d5:decide (1000001<d)=false:=by simp;omega
    have heq:=Un;cases h6:decide (a=0∧b=0)
    ·have h6n:¬(a=0∧b=0):=by simpa using h6
     by_cases h7:a<c'
     ·have hF:(decide (a=0∧b=0)||(decide (c'≤a)&&decide (a<b)&&decide (b≤d)))=false:=by rw[h6];simp;omega
      have HF:=Lib.hid hF;clear hF h6n;go_upto_region 10 with (go_at_call 139;refine (jg _ _ _ _).mono ?_;rintro e w' ⟨rfl,rfl⟩;first | rw[E1.out] | rw[E2.out]);refine aF 42 [some (.bool false),some (.bool true),some (.bool true),some (.pointer (some ⟨gb,2,none⟩)),some (.pointer (some ⟨gb,2,none⟩)),some (.int .i64 a),some (.pointer (some ⟨gb,4,none⟩)),some (.pointer (some ⟨gb,4,none⟩)),some (.int .i64 c'),some (.bool true),some (.bool true),some (undef),some (undef),some (undef),some (undef),some (undef),some (undef),some (undef),some (.bool true),some (.bool true),some (undef),some (undef),some (undef),some (undef),some (undef),some (undef),some (undef),some (.bool true),some (.bool true),some (.bool true),some (undef),some (undef),some (undef),some (undef),some (undef),some (undef),some (undef),some (undef),some (undef),some (undef),some (undef),some (.bool true)] [] ?_ ?_ ?_
      ·trivial
      ·refine⟨?_,?_,?_,?_,?_,?_,?_,?_,?_,?_,?_,?_,?_,?_,?_,?_,?_,?_,?_,?_,?_,?_,?_,?_,?_,?_,?_,?_,?_,?_,?_,?_,?_,?_,?_,?_,?_,?_,?_,?_,?_,?_,trivial⟩
       all_goals
        intro vals w1 hx hd;clear hd;simp only[Lf,au,Act.put,bH,bG];have g2:=ah hx g2;have g4:=ah hx g4;go_wp2;exact iq
      intro vals w5 hx hf;have e41:vals 41=.bool true:=hf 41 (by omega);clear hf;have hx:=hx.aH;have iJ:=aA hB1 hx;refine dO (by kernel_rfl) ?_;simp only[Lf,au,Act.put,FR_];rw[e41];clear e41 g0 g1 g2 g3 g4 g5;go_wp2;go_ret;exact⟨by rw[HN.out,HF.out];rfl,iJ⟩
     ·have h7':c'≤a:=by omega
      have d7:decide (a<c')=false:=by simp;omega
      by_cases h8:b≤a
      ·have hF:(decide (a=0∧b=0)||(decide (c'≤a)&&decide (a<b)&&decide (b≤d)))=false:=by rw[h6];simp;omega
       have HF:=Lib.hid hF;clear hF h6n;go_upto_region 10 with (go_at_call 139;refine (jg _ _ _ _).mono ?_;rintro e w' ⟨rfl,rfl⟩;first | rw[E1.out] | rw[E2.out]);refine aF 42 [some (.bool false),some (.bool true),some (.bool true),some (.pointer (some ⟨gb,2,none⟩)),some (.pointer (some ⟨gb,2,none⟩)),some (.int .i64 a),some (.pointer (some ⟨gb,4,none⟩)),some (.pointer (some ⟨gb,4,none⟩)),some (.int .i64 c'),some (.bool false),some (.bool false),some (.pointer (some ⟨gb,2,none⟩)),some (.pointer (some ⟨gb,2,none⟩)),some (.int .i64 a),some (.pointer (some ⟨gb,2,none⟩)),some (.pointer (some ⟨gb,3,none⟩)),some (.int .i64 b),some (.bool true),some (.bool true),some (.bool true),some (undef),some (undef),some (undef),some (undef),some (undef),some (undef),some (undef),some (.bool true),some (.bool true),some (.bool true),some (undef),some (undef),some (undef),some (undef),some (undef),some (undef),some (undef),some (undef),some (undef),some (undef),some (undef),some (.bool true)] [] ?_ ?_ ?_
       ·trivial
       ·refine⟨?_,?_,?_,?_,?_,?_,?_,?_,?_,?_,?_,?_,?_,?_,?_,?_,?_,?_,?_,?_,?_,?_,?_,?_,?_,?_,?_,?_,?_,?_,?_,?_,?_,?_,?_,?_,?_,?_,?_,?_,?_,?_,trivial⟩
        all_goals
         intro vals w1 hx hd;clear hd;simp only[Lf,au,Act.put,bH,bG];have g2:=ah hx g2;have g4:=ah hx g4;have g3:=ah hx g3;go_wp2;exact iq
       intro vals w5 hx hf;have e41:vals 41=.bool true:=hf 41 (by omega);clear hf;have hx:=hx.aH;have iJ:=aA hB1 hx;refine dO (by kernel_rfl) ?_;simp only[Lf,au,Act.put,FR_];rw[e41];clear e41 g0 g1 g2 g3 g4 g5;go_wp2;go_ret;exact⟨by rw[HN.out,HF.out];rfl,iJ⟩
      ·have h8':a<b:=by omega
       have d8:decide (b≤a)=false:=by simp;omega
       by_cases h9:d<b
       ·have hF:(decide (a=0∧b=0)||(decide (c'≤a)&&decide (a<b)&&decide (b≤d)))=false:=by rw[h6];simp;omega
        have HF:=Lib.hid hF;clear hF h6n;go_upto_region 10 with (go_at_call 139;refine (jg _ _ _ _).mono ?_;rintro e w' ⟨rfl,rfl⟩;first | rw[E1.out] | rw[E2.out]);refine aF 42 [some (.bool false),some (.bool true),some (.bool true),some (.pointer (some ⟨gb,2,none⟩)),some (.pointer (some ⟨gb,2,none⟩)),some (.int .i64 a),some (.pointer (some ⟨gb,4,none⟩)),some (.pointer (some ⟨gb,4,none⟩)),some (.int .i64 c'),some (.bool false),some (.bool false),some (.pointer (some ⟨gb,2,none⟩)),some (.pointer (some ⟨gb,2,none⟩)),some (.int .i64 a),some (.pointer (some ⟨gb,2,none⟩)),some (.pointer (some ⟨gb,3,none⟩)),some (.int .i64 b),some (.bool false),some (.bool false),some (.bool false),some (.pointer (some ⟨gb,2,none⟩)),some (.pointer (some ⟨gb,3,none⟩)),some (.int .i64 b),some (.pointer (some ⟨gb,4,none⟩)),some (.pointer (some ⟨gb,5,none⟩)),some (.int .i64 d),some (.bool true),some (.bool true),some (.bool true),some (.bool true),some (undef),some (undef),some (undef),some (undef),some (undef),some (undef),some (undef),some (undef),some (undef),some (undef),some (undef),some (.bool true)] [] ?_ ?_ ?_
        ·trivial
        ·refine⟨?_,?_,?_,?_,?_,?_,?_,?_,?_,?_,?_,?_,?_,?_,?_,?_,?_,?_,?_,?_,?_,?_,?_,?_,?_,?_,?_,?_,?_,?_,?_,?_,?_,?_,?_,?_,?_,?_,?_,?_,?_,?_,trivial⟩
         all_goals
          intro vals w1 hx hd;clear hd;simp only[Lf,au,Act.put,bH,bG];have g2:=ah hx g2;have g4:=ah hx g4;have g3:=ah hx g3;have g5:=ah hx g5;go_wp2;exact iq
        intro vals w5 hx hf;have e41:vals 41=.bool true:=hf 41 (by omega);clear hf;have hx:=hx.aH;have iJ:=aA hB1 hx;refine dO (by kernel_rfl) ?_;simp only[Lf,au,Act.put,FR_];rw[e41];clear e41 g0 g1 g2 g3 g4 g5;go_wp2;go_ret;exact⟨by rw[HN.out,HF.out];rfl,iJ⟩
       ·have h9':b≤d:=by omega
        have d9:decide (d<b)=false:=by simp;omega
        have hF:(decide (a=0∧b=0)||(decide (c'≤a)&&decide (a<b)&&decide (b≤d)))=true:=by rw[h6];simp;omega
        have HF:=Lib.hid hF;clear hF h6n;go_upto_region 10 with (go_at_call 139;refine (jg _ _ _ _).mono ?_;rintro e w' ⟨rfl,rfl⟩;first | rw[E1.out] | rw[E2.out]);by_cases hk0:k=0
        ·have hk0':(k:Int)≤0:=by omega
         have hpv:aV l k=none:=by simp[aV,hk0]
         have HP:=Lib.hid hpv;have zN:=Lib.hid hk0;have hkd:decide (0<k)=false:=by simp;omega
         clear hpv hk0;refine aF 42 [some (.bool false),some (.bool true),some (.bool true),some (.pointer (some ⟨gb,2,none⟩)),some (.pointer (some ⟨gb,2,none⟩)),some (.int .i64 a),some (.pointer (some ⟨gb,4,none⟩)),some (.pointer (some ⟨gb,4,none⟩)),some (.int .i64 c'),some (.bool false),some (.bool false),some (.pointer (some ⟨gb,2,none⟩)),some (.pointer (some ⟨gb,2,none⟩)),some (.int .i64 a),some (.pointer (some ⟨gb,2,none⟩)),some (.pointer (some ⟨gb,3,none⟩)),some (.int .i64 b),some (.bool false),some (.bool false),some (.bool false),some (.pointer (some ⟨gb,2,none⟩)),some (.pointer (some ⟨gb,3,none⟩)),some (.int .i64 b),some (.pointer (some ⟨gb,4,none⟩)),some (.pointer (some ⟨gb,5,none⟩)),some (.int .i64 d),some (.bool false),some (.bool false),some (.bool false),some (.bool false),some (.int .i64 (k:Int)),some (.bool false),some (.bool false),some (undef),some (undef),some (undef),some (undef),some (undef),some (undef),some (undef),some (.bool false),some (.bool false)] [] ?_ ?_ ?_
         ·trivial
         ·refine⟨?_,?_,?_,?_,?_,?_,?_,?_,?_,?_,?_,?_,?_,?_,?_,?_,?_,?_,?_,?_,?_,?_,?_,?_,?_,?_,?_,?_,?_,?_,?_,?_,?_,?_,?_,?_,?_,?_,?_,?_,?_,?_,trivial⟩
          all_goals
           intro vals w1 hx hd;clear hd;simp only[Lf,au,Act.put,bH,bG];have g2:=ah hx g2;have g4:=ah hx g4;have g3:=ah hx g3;have g5:=ah hx g5;go_wp2;exact iq
         intro vals w5 hx hf;have e41:vals 41=.bool false:=hf 41 (by omega);clear hf;have hx:=hx.aH;have iJ:=aA hB1 hx;refine dO (by kernel_rfl) ?_;simp only[Lf,au,Act.put,FR_];rw[e41];clear e41 g0 g1 g2 g3 g4 g5;go_wp2;go_roundw
         case rel=>exact⟨k+1,by omega,by go_num,Lib.hid (by rw[HN.out,HF.out,HP.out];rfl),iJ⟩
         case measure=>simp[intOf];omega
        ·have hk1:(0:Int)<(k:Int):=by omega
         obtain⟨b',o',hz',hA',uO,hc'⟩:=RA.at_ bg (HR.out.below hB) (k:=k-1) (by omega);obtain⟨rfl,rfl⟩:b'=b_∧o'=o:=by injection hA' with hA';injection hA' with h1 h2;exact⟨h1.symm,h2.symm⟩
         have hpv:aV l k=some l[k-1]:=by unfold aV;rw[if_neg hk0,List.getElem?_eq_getElem hz']
         generalize l[k-1]=y at hpv hc';obtain⟨XM,XO,⟨ya,yb⟩,⟨yc,yd⟩⟩:=y;have d0:W1.cell? ⟨b',o'+(k-1)*6,none⟩=some (.int .i64 XM):=ah kC.out (hc' 0 (by omega));have d1:W1.cell? ⟨b',o'+(k-1)*6+1,none⟩=some (.int .i64 XO):=ah kC.out (hc' 1 (by omega));have d2:W1.cell? ⟨b',o'+(k-1)*6+2,none⟩=some (.int .i64 ya):=ah kC.out (hc' 2 (by omega));have d3:W1.cell? ⟨b',o'+(k-1)*6+3,none⟩=some (.int .i64 yb):=ah kC.out (hc' 3 (by omega));have d4:W1.cell? ⟨b',o'+(k-1)*6+4,none⟩=some (.int .i64 yc):=ah kC.out (hc' 4 (by omega));have d5:W1.cell? ⟨b',o'+(k-1)*6+5,none⟩=some (.int .i64 yd):=ah kC.out (hc' 5 (by omega));have hlc:=qI sa sn a b c' d XM XO ya yb yc yd;generalize hlq:ltOf aU ⟨sa,sn,⟨a,b⟩,⟨c',d⟩⟩ ⟨XM,XO,⟨ya,yb⟩,⟨yc,yd⟩⟩=lt at hlc;have XP:=Lib.hid hlq;have Cm:=Lib.hid hlc;have HP:=Lib.hid hpv;have zN:=Lib.hid hk0;clear hpv hc' hA' uO hk0 hlc hlq;have hki:IntKind.i64.wrap ((k:Int)-1)=(k:Int)-1:=IntWalk.i64_in _ (by omega);have hkn:((k:Int)-1).toNat=k-1:=by omega
         have hkd:decide (0<k)=true:=by simp;omega
         refine aF 42 [some (.bool false),some (.bool true),some (.bool true),some (.pointer (some ⟨gb,2,none⟩)),some (.pointer (some ⟨gb,2,none⟩)),some (.int .i64 a),some (.pointer (some ⟨gb,4,none⟩)),some (.pointer (some ⟨gb,4,none⟩)),some (.int .i64 c'),some (.bool false),some (.bool false),some (.pointer (some ⟨gb,2,none⟩)),some (.pointer (some ⟨gb,2,none⟩)),some (.int .i64 a),some (.pointer (some ⟨gb,2,none⟩)),some (.pointer (some ⟨gb,3,none⟩)),some (.int .i64 b),some (.bool false),some (.bool false),some (.bool false),some (.pointer (some ⟨gb,2,none⟩)),some (.pointer (some ⟨gb,3,none⟩)),some (.int .i64 b),some (.pointer (some ⟨gb,4,none⟩)),some (.pointer (some ⟨gb,5,none⟩)),some (.int .i64 d),some (.bool false),some (.bool false),some (.bool false),some (.bool false),some (.int .i64 (k:Int)),some (.bool true),some (.bool true),some (.agg #[.int .i64 sa,.int .i64 sn,.int .i64 a,.int .i64 b,.int .i64 c',.int .i64 d]),some (.slice (some ⟨b',o',none⟩) n c),some (.int .i64 (k:Int)),some (.int .i64 ((k:Int)-1)),some (.pointer (some ⟨b',o'+(k-1)*6,none⟩)),some (.agg #[.int .i64 XM,.int .i64 XO,.int .i64 ya,.int .i64 yb,.int .i64 yc,.int .i64 yd]),some (.bool lt),some (.bool lt),some (.bool lt)] [] ?_ ?_ ?_
         ·trivial
         ·refine⟨?_,?_,?_,?_,?_,?_,?_,?_,?_,?_,?_,?_,?_,?_,?_,?_,?_,?_,?_,?_,?_,?_,?_,?_,?_,?_,?_,?_,?_,?_,?_,?_,?_,?_,?_,?_,?_,?_,?_,?x39,?_,?_,trivial⟩
          case x39 =>
           intro vals w1 hx hd;clear hd;simp only[Lf,au,Act.put,bH,bG];go_wp2_with fail;refine (Cm.out _).mono ?_;rintro e w2 ⟨rfl,hb2⟩;go_wp2;exact⟨rfl,hb2,rfl⟩
          all_goals
           intro vals w1 hx hd;clear hd;simp only[Lf,au,Act.put,bH,bG];have g2:=ah hx g2;have g4:=ah hx g4;have g3:=ah hx g3;have g5:=ah hx g5;have g0:=ah hx g0;have g1:=ah hx g1;have d0:=ah hx d0;have d1:=ah hx d1;have d2:=ah hx d2;have d3:=ah hx d3;have d4:=ah hx d4;have d5:=ah hx d5;go_wp2;exact iq
         intro vals w5 hx hf;have e41:vals 41=.bool lt:=hf 41 (by omega);clear hf;have hx:=hx.aH;have iJ:=aA hB1 hx;refine dO (by kernel_rfl) ?_;simp only[Lf,au,Act.put,FR_];rw[e41];clear e41 g0 g1 g2 g3 g4 g5;clear d0 d1 d2 d3 d4 d5;cases lt
         ·go_wp2;go_roundw
          case rel=>exact⟨k+1,by omega,by go_num,Lib.hid (by rw[HN.out,HF.out,HP.out];simp only[XP.out];rfl),iJ⟩
          case measure=>simp[intOf];omega
         ·go_wp2;go_ret;exact⟨by rw[HN.out,HF.out,HP.out];simp only[XP.out];rfl,iJ⟩
    ·have hF:(decide (a=0∧b=0)||(decide (c'≤a)&&decide (a<b)&&decide (b≤d)))=true:=by rw[h6];rfl
     have HF:=Lib.hid hF;clear hF;go_upto_region 10 with (go_at_call 139;refine (jg _ _ _ _).mono ?_;rintro e w' ⟨rfl,rfl⟩;first | rw[E1.out] | rw[E2.out]);by_cases hk0:k=0
     ·have hk0':(k:Int)≤0:=by omega
      have hpv:aV l k=none:=by simp[aV,hk0]
      have HP:=Lib.hid hpv;have zN:=Lib.hid hk0;have hkd:decide (0<k)=false:=by simp;omega
      clear hpv hk0;refine aF 42 [some (.bool true),some (.bool false),some (.bool false),some (undef),some (undef),some (undef),some (undef),some (undef),some (undef),some (undef),some (undef),some (undef),some (undef),some (undef),some (undef),some (undef),some (undef),some (undef),some (undef),some (undef),some (undef),some (undef),some (undef),some (undef),some (undef),some (undef),some (undef),some (undef),some (.bool false),some (.bool false),some (.int .i64 (k:Int)),some (.bool false),some (.bool false),some (undef),some (undef),some (undef),some (undef),some (undef),some (undef),some (undef),some (.bool false),some (.bool false)] [] ?_ ?_ ?_
      ·trivial
      ·refine⟨?_,?_,?_,?_,?_,?_,?_,?_,?_,?_,?_,?_,?_,?_,?_,?_,?_,?_,?_,?_,?_,?_,?_,?_,?_,?_,?_,?_,?_,?_,?_,?_,?_,?_,?_,?_,?_,?_,?_,?_,?_,?_,trivial⟩
       all_goals
        intro vals w1 hx hd;clear hd;simp only[Lf,au,Act.put,bH,bG];go_wp2;exact iq
      intro vals w5 hx hf;have e41:vals 41=.bool false:=hf 41 (by omega);clear hf;have hx:=hx.aH;have iJ:=aA hB1 hx;refine dO (by kernel_rfl) ?_;simp only[Lf,au,Act.put,FR_];rw[e41];clear e41 g0 g1 g2 g3 g4 g5;go_wp2;go_roundw
      case rel=>exact⟨k+1,by omega,by go_num,Lib.hid (by rw[HN.out,HF.out,HP.out];rfl),iJ⟩
      case measure=>simp[intOf];omega
     ·have hk1:(0:Int)<(k:Int):=by omega
      obtain⟨b',o',hz',hA',uO,hc'⟩:=RA.at_ bg (HR.out.below hB) (k:=k-1) (by omega);obtain⟨rfl,rfl⟩:b'=b_∧o'=o:=by injection hA' with hA';injection hA' with h1 h2;exact⟨h1.symm,h2.symm⟩
      have hpv:aV l k=some l[k-1]:=by unfold aV;rw[if_neg hk0,List.getElem?_eq_getElem hz']
      generalize l[k-1]=y at hpv hc';obtain⟨XM,XO,⟨ya,yb⟩,⟨yc,yd⟩⟩:=y;have d0:W1.cell? ⟨b',o'+(k-1)*6,none⟩=some (.int .i64 XM):=ah kC.out (hc' 0 (by omega));have d1:W1.cell? ⟨b',o'+(k-1)*6+1,none⟩=some (.int .i64 XO):=ah kC.out (hc' 1 (by omega));have d2:W1.cell? ⟨b',o'+(k-1)*6+2,none⟩=some (.int .i64 ya):=ah kC.out (hc' 2 (by omega));have d3:W1.cell? ⟨b',o'+(k-1)*6+3,none⟩=some (.int .i64 yb):=ah kC.out (hc' 3 (by omega));have d4:W1.cell? ⟨b',o'+(k-1)*6+4,none⟩=some (.int .i64 yc):=ah kC.out (hc' 4 (by omega));have d5:W1.cell? ⟨b',o'+(k-1)*6+5,none⟩=some (.int .i64 yd):=ah kC.out (hc' 5 (by omega));have hlc:=qI sa sn a b c' d XM XO ya yb yc yd;generalize hlq:ltOf aU ⟨sa,sn,⟨a,b⟩,⟨c',d⟩⟩ ⟨XM,XO,⟨ya,yb⟩,⟨yc,yd⟩⟩=lt at hlc;have XP:=Lib.hid hlq;have Cm:=Lib.hid hlc;have HP:=Lib.hid hpv;have zN:=Lib.hid hk0;clear hpv hc' hA' uO hk0 hlc hlq;have hki:IntKind.i64.wrap ((k:Int)-1)=(k:Int)-1:=IntWalk.i64_in _ (by omega);have hkn:((k:Int)-1).toNat=k-1:=by omega
      have hkd:decide (0<k)=true:=by simp;omega
      refine aF 42 [some (.bool true),some (.bool false),some (.bool false),some (undef),some (undef),some (undef),some (undef),some (undef),some (undef),some (undef),some (undef),some (undef),some (undef),some (undef),some (undef),some (undef),some (undef),some (undef),some (undef),some (undef),some (undef),some (undef),some (undef),some (undef),some (undef),some (undef),some (undef),some (undef),some (.bool false),some (.bool false),some (.int .i64 (k:Int)),some (.bool true),some (.bool true),some (.agg #[.int .i64 sa,.int .i64 sn,.int .i64 a,.int .i64 b,.int .i64 c',.int .i64 d]),some (.slice (some ⟨b',o',none⟩) n c),some (.int .i64 (k:Int)),some (.int .i64 ((k:Int)-1)),some (.pointer (some ⟨b',o'+(k-1)*6,none⟩)),some (.agg #[.int .i64 XM,.int .i64 XO,.int .i64 ya,.int .i64 yb,.int .i64 yc,.int .i64 yd]),some (.bool lt),some (.bool lt),some (.bool lt)] [] ?_ ?_ ?_
      ·trivial
      ·refine⟨?_,?_,?_,?_,?_,?_,?_,?_,?_,?_,?_,?_,?_,?_,?_,?_,?_,?_,?_,?_,?_,?_,?_,?_,?_,?_,?_,?_,?_,?_,?_,?_,?_,?_,?_,?_,?_,?_,?_,?x39,?_,?_,trivial⟩
       case x39 =>
        intro vals w1 hx hd;clear hd;simp only[Lf,au,Act.put,bH,bG];go_wp2_with fail;refine (Cm.out _).mono ?_;rintro e w2 ⟨rfl,hb2⟩;go_wp2;exact⟨rfl,hb2,rfl⟩
       all_goals
        intro vals w1 hx hd;clear hd;simp only[Lf,au,Act.put,bH,bG];have g0:=ah hx g0;have g1:=ah hx g1;have g2:=ah hx g2;have g3:=ah hx g3;have g4:=ah hx g4;have g5:=ah hx g5;have d0:=ah hx d0;have d1:=ah hx d1;have d2:=ah hx d2;have d3:=ah hx d3;have d4:=ah hx d4;have d5:=ah hx d5;go_wp2;exact iq
      intro vals w5 hx hf;have e41:vals 41=.bool lt:=hf 41 (by omega);clear hf;have hx:=hx.aH;have iJ:=aA hB1 hx;refine dO (by kernel_rfl) ?_;simp only[Lf,au,Act.put,FR_];rw[e41];clear e41 g0 g1 g2 g3 g4 g5;clear d0 d1 d2 d3 d4 d5;cases lt
      ·go_wp2;go_roundw
       case rel=>exact⟨k+1,by omega,by go_num,Lib.hid (by rw[HN.out,HF.out,HP.out];simp only[XP.out];rfl),iJ⟩
       case measure=>simp[intOf];omega
      ·go_wp2;go_ret;exact⟨by rw[HN.out,HF.out,HP.out];simp only[XP.out];rfl,iJ⟩
   ·go_wp2;go_ret;exact⟨by rw[HK.out,List.drop_of_length_le (by rw[HL.out];omega)];rfl,hB⟩
 ·have hd:decide (n≤64)=false:=by simpa using hn
  rw[hd,Bool.false_and];clear hd;go_enter Tryz.func85,Tryz.ntmps85;go_wp2;go_ret;exact⟨rfl,(by repeat (first | exact Below.refl _ _ | assumption | refine Below.drew ?_ | refine below_drewN ?_ _ | refine aj ?_ _ | refine Below.setCell ?_ (by first | (simp;done) | omega | (simp;omega)) _ | refine aA ?_ (by assumption)))⟩
end Go.Proofs.YtjidhhfabfnhnaaGreat
namespace Go.Proofs.YtjidhhfabfnhnaaGreat
open Go.RowKit
attribute [local go_sem] Oper.semAt_some
def Ze (w:World) (e:Ending) (w':World):Prop:=(∃q,e=.returned (.bool q))∧Ext w w'
set_option maxRecDepth 100000 in
set_option maxHeartbeats 4000000 in
theorem F9 (s:St) (id ord zx sat a b look size:Int) (LA PA:Option Addr) (ln lc pn pc:Nat) (sl:List xu) (P:List bP) (w:World) (hL:RA dR 3 w w.heap.size LA ln lc sl) (hP:RA ak 6 w w.heap.size PA pn pc P) :
  Calls Tryz.prog 96 #[.agg (aC s).toArray,.agg #[.int .i64 id,.int .i64 ord,.int .i64 zx,.int .i64 sat,.int .i64 a,.int .i64 b,.int .i64 look,.int .i64 size,.slice LA ln lc],.slice PA pn pc] w (Ze w):=by
 have PG:Hid (∀W,Calls Tryz.prog 129 #[.agg (aC s).toArray] W fun e w'=>e=.returned (.bool (dQ s))∧Ext W w'):=Lib.hid (fun W=>wL s W);have oH:Hid (∀W,Ext w W→Calls Tryz.prog 85 #[.slice PA pn pc] W fun e w'=>e=.returned (.bool (iE P))∧Ext W w'):=Lib.hid (fun W h=>IV P PA pn pc W (aB hP h));have HV8:Hid (∀W,Calls Tryz.prog 145 #[.agg (aN s.aY).toArray,.agg #[.int .i64 a,.int .i64 b],.int .i64 look] W fun e w'=>e=.returned (.bool (wK s.aY a b look))∧Ext W w'):=Lib.hid (fun W=>IU s.aY a b look W);have HRL:=Lib.hid hL;have Vy:=Lib.hid hP;have hpn:=hP.le;have hln:=hL.le;clear hL hP;generalize dQ s=q1 at PG;generalize iE P=q2 at oH;generalize wK s.aY a b look=q3 at HV8;obtain⟨SX,g_⟩:∃X,(aC s).toArray=X:=⟨_,rfl⟩;obtain⟨OX,yM⟩:∃X,(aN s.aY).toArray=X:=⟨_,rfl⟩;rw[yM]at HV8;rw[g_]at PG⊢;have Vz:Hid (SX.size=21):=Lib.hid (by rw[←g_];rfl);have XQ:Hid (OX.size=7):=Lib.hid (by rw[←yM];rfl);have VA:SX[0]?=some (.int .i64 s.id):=by rw[←g_];rfl
 have XR:SX[9]?=some (.int .i64 s.wide):=by rw[←g_];rfl
 have est:SX[10]?=some (.int .i64 s.store):=by rw[←g_];rfl
 have era:SX[20]?=some (.int .i64 s.rate):=by rw[←g_];rfl
 have CW:∀j v,OX.toList[j]?=some v→SX[2+j]?=some v:=by
  intro j v h;rw[←yM]at h;rw[←g_]
  match j,h with
  |0,h=>simpa [aN,aC]using h
  |1,h=>simpa [aN,aC]using h
  |2,h=>simpa [aN,aC]using h
  |3,h=>simpa [aN,aC]using h
  |4,h=>simpa [aN,aC]using h
  |5,h=>simpa [aN,aC]using h
  |6,h=>simpa [aN,aC]using h
  |j+7,h=>simp[aN]at h
 obtain⟨fO,Di⟩:∃x,x=s.id:=⟨_,rfl⟩;obtain⟨Dj,hswi⟩:∃x,x=s.wide:=⟨_,rfl⟩;obtain⟨VB,hsst⟩:∃x,x=s.store:=⟨_,rfl⟩;obtain⟨XT,hsra⟩:∃x,x=s.rate:=⟨_,rfl⟩;rw[←Di]at VA;rw[←hswi]at XR;rw[←hsst]at est;rw[←hsra]at era;clear g_ yM Di hswi hsst hsra;go_enter Tryz.func96,Tryz.ntmps96;go_upto_region 1 with (fail);have J3:aG ((w.alloc (.cells SX 53)).alloc (.cells #[.int .i64 id,.int .i64 ord,.int .i64 zx,.int .i64 sat,.int .i64 a,.int .i64 b,.int .i64 look,.int .i64 size,.slice LA ln lc] 49)) w.heap.size 53 SX:=(aG.new _ _ _).alloc _;have J4:aG ((w.alloc (.cells SX 53)).alloc (.cells #[.int .i64 id,.int .i64 ord,.int .i64 zx,.int .i64 sat,.int .i64 a,.int .i64 b,.int .i64 look,.int .i64 size,.slice LA ln lc] 49)) (w.heap.size+1) 49 #[.int .i64 id,.int .i64 ord,.int .i64 zx,.int .i64 sat,.int .i64 a,.int .i64 b,.int .i64 look,.int .i64 size,.slice LA ln lc]:=aG.bC _ _ _ (by simp);have hB:Ext w ((w.alloc (.cells SX 53)).alloc (.cells #[.int .i64 id,.int .i64 ord,.int .i64 zx,.int .i64 sat,.int .i64 a,.int .i64 b,.int .i64 look,.int .i64 size,.slice LA ln lc] 49)):=aj (aj (Below.refl _ _) _) _;obtain⟨g4,hg4⟩:∃g,g=w.heap.size+1:=⟨_,rfl⟩;rw[←hg4]at J4⊢;obtain⟨g3,hg3⟩:∃g,g=w.heap.size:=⟨_,rfl⟩;rw[←hg3]at J3⊢;generalize (w.alloc (.cells SX 53)).alloc (.cells #[.int .i64 id,.int .i64 ord,.int .i64 zx,.int .i64 sat,.int .i64 a,.int .i64 b,.int .i64 look,.int .i64 size,.slice LA ln lc] 49)=W0 at J3 J4 hB⊢;clear hg3 hg4;have Vu:=Lib.hid J3;go_wp2_with (refine ay rfl 53 _ rfl g3 0 rfl SX SX.toList (by simp) _ (aG.range Vu.out _ rfl) Tryz.underlying53 rfl (by rw[Array.length_toList,Vz.out];exact aQ) ?_);refine (PG.out _).mono ?_;rintro e W1 ⟨rfl,hx⟩;have J3:=J3.ext hx;have J4:=J4.ext hx;have hB:=Ext.trans hB hx;clear hx;have Vu:=Lib.hid J3;cases q1
 ·skip;go_wp2;go_ret;exact⟨⟨_,rfl⟩,hB⟩
 ·skip;go_wp2_with fail;refine (oH.out _ hB).mono ?_;rintro e W2 ⟨rfl,hx⟩;have J3:=J3.ext hx;have J4:=J4.ext hx;have hB:=Ext.trans hB hx;clear hx;have Vu:=Lib.hid J3;cases q2
  ·skip;go_wp2;go_ret;exact⟨⟨_,rfl⟩,hB⟩
  ·skip;have Vw:W2.cell? ⟨g4,0,none⟩=some (.int .i64 id):=J4.cell 0;have Vx:W2.cell? ⟨g4,1,none⟩=some (.int .i64 ord):=J4.cell 1;have Zf:W2.cell? ⟨g4,2,none⟩=some (.int .i64 zx):=J4.cell 2;have Zg:W2.cell? ⟨g4,3,none⟩=some (.int .i64 sat):=J4.cell 3;have Zh:W2.cell? ⟨g4,4,none⟩=some (.int .i64 a):=J4.cell 4;have Zi:W2.cell? ⟨g4,5,none⟩=some (.int .i64 b):=J4.cell 5;have Zj:W2.cell? ⟨g4,6,none⟩=some (.int .i64 look):=J4.cell 6;have Zk:W2.cell? ⟨g4,7,none⟩=some (.int .i64 size):=J4.cell 7;have Zl:W2.cell? ⟨g4,8,none⟩=some (.slice LA ln lc):=J4.cell 8;have IW:W2.cell? ⟨g3,0,none⟩=some (.int .i64 fO):=(J3.cell 0).trans VA;have IX:W2.cell? ⟨g3,9,none⟩=some (.int .i64 Dj):=(J3.cell 9).trans XR;have IY:W2.cell? ⟨g3,10,none⟩=some (.int .i64 VB):=(J3.cell 10).trans est;have IZ:W2.cell? ⟨g3,20,none⟩=some (.int .i64 XT):=(J3.cell 20).trans era;obtain⟨b1,hb1⟩:∃q,inB (id) (0) (63)=q:=⟨_,rfl⟩;go_wp2_with fail;refine (kX _ _ _ _).mono ?_;rintro e w9 ⟨rfl,rfl⟩;rw[hb1];clear hb1;cases b1
   ·skip;go_wp2;go_ret;exact⟨⟨_,rfl⟩,hB⟩
   ·skip;obtain⟨b2,hb2⟩:∃q,inB (ord) (0) (63)=q:=⟨_,rfl⟩;go_wp2_with fail;refine (kX _ _ _ _).mono ?_;rintro e w9 ⟨rfl,rfl⟩;rw[hb2];clear hb2;cases b2
    ·skip;go_wp2;go_ret;exact⟨⟨_,rfl⟩,hB⟩
    ·skip;obtain⟨b3,hb3⟩:∃q,inB (zx) (0) (11)=q:=⟨_,rfl⟩;go_wp2_with fail;refine (kX _ _ _ _).mono ?_;rintro e w9 ⟨rfl,rfl⟩;rw[hb3];clear hb3;cases b3
     ·skip;go_wp2;go_ret;exact⟨⟨_,rfl⟩,hB⟩
     ·skip;by_cases hq:sat=fO
      ·have hq2:(sat==fO)=true:=by simp[hq]
       go_wp2_with (refine ay rfl 51 _ rfl g3 2 rfl OX OX.toList (by simp) _ (fun j v h=>by rw[Vu.out.cell];exact CW j v h) Tryz.underlying51 rfl (by rw[Array.length_toList,XQ.out];exact aZ) ?_);refine (HV8.out _).mono ?_;rintro e W3 ⟨rfl,hx⟩;have J3:=J3.ext hx;have J4:=J4.ext hx;have hB:=Ext.trans hB hx;clear hx;have Vu:=Lib.hid J3;clear Vw Vx Zf Zg Zh Zi Zj Zk Zl IW IX IY IZ;cases q3
       ·skip;go_wp2;go_ret;exact⟨⟨_,rfl⟩,hB⟩
       ·skip;have Vw:W3.cell? ⟨g4,0,none⟩=some (.int .i64 id):=J4.cell 0;have Vx:W3.cell? ⟨g4,1,none⟩=some (.int .i64 ord):=J4.cell 1;have Zf:W3.cell? ⟨g4,2,none⟩=some (.int .i64 zx):=J4.cell 2;have Zg:W3.cell? ⟨g4,3,none⟩=some (.int .i64 sat):=J4.cell 3;have Zh:W3.cell? ⟨g4,4,none⟩=some (.int .i64 a):=J4.cell 4;have Zi:W3.cell? ⟨g4,5,none⟩=some (.int .i64 b):=J4.cell 5;have Zj:W3.cell? ⟨g4,6,none⟩=some (.int .i64 look):=J4.cell 6;have Zk:W3.cell? ⟨g4,7,none⟩=some (.int .i64 size):=J4.cell 7;have Zl:W3.cell? ⟨g4,8,none⟩=some (.slice LA ln lc):=J4.cell 8;have IW:W3.cell? ⟨g3,0,none⟩=some (.int .i64 fO):=(J3.cell 0).trans VA;have IX:W3.cell? ⟨g3,9,none⟩=some (.int .i64 Dj):=(J3.cell 9).trans XR;have IY:W3.cell? ⟨g3,10,none⟩=some (.int .i64 VB):=(J3.cell 10).trans est;have IZ:W3.cell? ⟨g3,20,none⟩=some (.int .i64 XT):=(J3.cell 20).trans era;obtain⟨nw,hnw⟩:∃z,IntKind.i64.wrap (-Dj)=z:=⟨_,rfl⟩;obtain⟨b4,hb4⟩:∃q,inB (look) (nw) (Dj)=q:=⟨_,rfl⟩;go_wp2_with fail;refine (kX _ _ _ _).mono ?_;rintro e w9 ⟨rfl,rfl⟩;rw[hb4];clear hb4;cases b4
        ·skip;go_wp2;go_ret;exact⟨⟨_,rfl⟩,hB⟩
        ·skip;by_cases hb:b≤1000000
         ·have hb2:¬(1000000:Int)<b:=by omega
          obtain⟨b5,hb5⟩:∃q,inB (size) (1) (VB)=q:=⟨_,rfl⟩;go_wp2_with fail;refine (kX _ _ _ _).mono ?_;rintro e w9 ⟨rfl,rfl⟩;rw[hb5];clear hb5;cases b5
          ·skip;go_wp2;go_ret;exact⟨⟨_,rfl⟩,hB⟩
          ·skip;obtain⟨b6,hb6⟩:∃q,inB ((ln:Int)) (1) (6)=q:=⟨_,rfl⟩;go_wp2_with fail;refine (kX _ _ _ _).mono ?_;rintro e w9 ⟨rfl,rfl⟩;rw[hb6];clear hb6;cases b6
           ·skip;go_wp2;go_ret;exact⟨⟨_,rfl⟩,hB⟩
           ·skip;have qY:=Lib.hid J4;have Vu:=Lib.hid J3;have HB:=Lib.hid hB;clear J3 J4 hB;go_wp2;clear Vw Vx Zf Zg Zh Zi Zj Zk Zl IW IX IY IZ;obtain⟨V,hV⟩:∃W:World,W=W3:=⟨_,rfl⟩;rw[←hV]at Vu qY HB⊢;clear hV;go_loopw [7,8] (fun x y wr=>∃(k:Nat) (e:Int),k≤ln∧x=.int .i64 e∧y=.int .i64 k∧Ext V wr) (fun _ y _=>ln-(intOf y).toNat)
            case atStart=>exact⟨0,_,Nat.zero_le _,rfl,rfl,Ext.refl _⟩
            case round =>
             obtain⟨k,en,hk,rfl,rfl,hx⟩:=hrel;have J3:=Vu.out.ext hx;have J4:=qY.out.ext hx;have hB:=Ext.trans HB.out hx;have Vw:wr.cell? ⟨g4,0,none⟩=some (.int .i64 id):=J4.cell 0;have Vx:wr.cell? ⟨g4,1,none⟩=some (.int .i64 ord):=J4.cell 1;have Zf:wr.cell? ⟨g4,2,none⟩=some (.int .i64 zx):=J4.cell 2;have Zg:wr.cell? ⟨g4,3,none⟩=some (.int .i64 sat):=J4.cell 3;have Zh:wr.cell? ⟨g4,4,none⟩=some (.int .i64 a):=J4.cell 4;have Zi:wr.cell? ⟨g4,5,none⟩=some (.int .i64 b):=J4.cell 5;have Zj:wr.cell? ⟨g4,6,none⟩=some (.int .i64 look):=J4.cell 6;have Zk:wr.cell? ⟨g4,7,none⟩=some (.int .i64 size):=J4.cell 7;have Zl:wr.cell? ⟨g4,8,none⟩=some (.slice LA ln lc):=J4.cell 8;have IW:wr.cell? ⟨g3,0,none⟩=some (.int .i64 fO):=(J3.cell 0).trans VA;have IX:wr.cell? ⟨g3,9,none⟩=some (.int .i64 Dj):=(J3.cell 9).trans XR;have IY:wr.cell? ⟨g3,10,none⟩=some (.int .i64 VB):=(J3.cell 10).trans est;have IZ:wr.cell? ⟨g3,20,none⟩=some (.int .i64 XT):=(J3.cell 20).trans era;by_cases hkn:k<ln
             ·have hkz:(k:Int)<(ln:Int):=by omega
              obtain⟨gl,gq,hz,hA,_,hc⟩:=(HRL.out.below hB).at_ EY hkn;subst hA;generalize sl[k]=u at hc;obtain⟨up,uf,ut⟩:=u;have d0:wr.cell? ⟨gl,gq+k*3,none⟩=some (.int .i64 up):=hc 0 (by omega);have d1:wr.cell? ⟨gl,gq+k*3+1,none⟩=some (.int .i64 uf):=hc 1 (by omega);have d2:wr.cell? ⟨gl,gq+k*3+2,none⟩=some (.int .i64 ut):=hc 2 (by omega);clear hc hz;go_upto_region 12 with (fail);have J9:aG (wr.alloc (.cells #[.int .i64 up,.int .i64 uf,.int .i64 ut] 103)) wr.heap.size 103 #[.int .i64 up,.int .i64 uf,.int .i64 ut]:=aG.new _ _ _;have hy:Ext wr (wr.alloc (.cells #[.int .i64 up,.int .i64 uf,.int .i64 ut] 103)):=aj (Below.refl _ _) _;generalize wr.heap.size=g9 at J9⊢;generalize wr.alloc (.cells #[.int .i64 up,.int .i64 uf,.int .i64 ut] 103)=V1 at J9 hy⊢;clear Vw Vx Zf Zg Zh Zi Zj Zk Zl IW IX IY IZ;clear d0 d1 d2;have J3:=J3.ext hy;have J4:=J4.ext hy;have hB:=Ext.trans hB hy;have hx:=Ext.trans hx hy;clear hy;have Vw:V1.cell? ⟨g4,0,none⟩=some (.int .i64 id):=J4.cell 0;have Vx:V1.cell? ⟨g4,1,none⟩=some (.int .i64 ord):=J4.cell 1;have Zf:V1.cell? ⟨g4,2,none⟩=some (.int .i64 zx):=J4.cell 2;have Zg:V1.cell? ⟨g4,3,none⟩=some (.int .i64 sat):=J4.cell 3;have Zh:V1.cell? ⟨g4,4,none⟩=some (.int .i64 a):=J4.cell 4;have Zi:V1.cell? ⟨g4,5,none⟩=some (.int .i64 b):=J4.cell 5;have Zj:V1.cell? ⟨g4,6,none⟩=some (.int .i64 look):=J4.cell 6;have Zk:V1.cell? ⟨g4,7,none⟩=some (.int .i64 size):=J4.cell 7;have Zl:V1.cell? ⟨g4,8,none⟩=some (.slice (some ⟨gl,gq,none⟩) ln lc):=J4.cell 8;have IW:V1.cell? ⟨g3,0,none⟩=some (.int .i64 fO):=(J3.cell 0).trans VA;have IX:V1.cell? ⟨g3,9,none⟩=some (.int .i64 Dj):=(J3.cell 9).trans XR;have IY:V1.cell? ⟨g3,10,none⟩=some (.int .i64 VB):=(J3.cell 10).trans est;have IZ:V1.cell? ⟨g3,20,none⟩=some (.int .i64 XT):=(J3.cell 20).trans era;have d0:V1.cell? ⟨g9,0,none⟩=some (.int .i64 up):=J9.cell 0;have d1:V1.cell? ⟨g9,1,none⟩=some (.int .i64 uf):=J9.cell 1;have d2:V1.cell? ⟨g9,2,none⟩=some (.int .i64 ut):=J9.cell 2;have Gt:IntKind.i64.wrap ((pn:Int)-1)=(pn:Int)-1:=IntWalk.i64_in _ (by omega);obtain⟨b7,hb7⟩:∃q,inB up 0 ((pn:Int)-1)=q:=⟨_,rfl⟩;have hb8:b7=true→0≤up∧up≤(pn:Int)-1:=fun h=>by rw[h,jf]at hb7;exact hb7
              go_wp2_with fail;refine (kX _ _ _ _).mono ?_;rintro e w9 ⟨rfl,rfl⟩;rw[hb7];clear hb7;cases b7
              ·skip;clear hb8;go_wp2;go_ret;exact⟨⟨_,rfl⟩,hB⟩
              ·skip;obtain⟨h1,h2⟩:=hb8 rfl;clear hb8;obtain⟨m,rfl⟩:=Int.eq_ofNat_of_zero_le h1;have hm:m<pn:=by omega
               obtain⟨gm,gmo,hz,hA,_,hc⟩:=(Vy.out.below hB).at_ bg hm;subst hA;generalize P[m]=pp at hc;obtain⟨x0,x1,⟨x2,x3⟩,⟨x4,x5⟩⟩:=pp;have f0:V1.cell? ⟨gm,gmo+m*6,none⟩=some (.int .i64 x0):=hc 0 (by omega);have f1:V1.cell? ⟨gm,gmo+m*6+1,none⟩=some (.int .i64 x1):=hc 1 (by omega);have f2:V1.cell? ⟨gm,gmo+m*6+2,none⟩=some (.int .i64 x2):=hc 2 (by omega);have f3:V1.cell? ⟨gm,gmo+m*6+3,none⟩=some (.int .i64 x3):=hc 3 (by omega);have f4:V1.cell? ⟨gm,gmo+m*6+4,none⟩=some (.int .i64 x4):=hc 4 (by omega);have f5:V1.cell? ⟨gm,gmo+m*6+5,none⟩=some (.int .i64 x5):=hc 5 (by omega);clear hc hz h1 h2;have hmz:(m:Int)<(pn:Int):=by omega
               go_upto_region 15 with (fail);have jr:aG (V1.alloc (.cells #[.int .i64 x0,.int .i64 x1,.int .i64 x2,.int .i64 x3,.int .i64 x4,.int .i64 x5] 75)) V1.heap.size 75 #[.int .i64 x0,.int .i64 x1,.int .i64 x2,.int .i64 x3,.int .i64 x4,.int .i64 x5]:=aG.new _ _ _;have hy:Ext V1 (V1.alloc (.cells #[.int .i64 x0,.int .i64 x1,.int .i64 x2,.int .i64 x3,.int .i64 x4,.int .i64 x5] 75)):=aj (Below.refl _ _) _;generalize V1.heap.size=g10 at jr⊢;generalize V1.alloc (.cells #[.int .i64 x0,.int .i64 x1,.int .i64 x2,.int .i64 x3,.int .i64 x4,.int .i64 x5] 75)=V2 at jr hy⊢;clear Vw Vx Zf Zg Zh Zi Zj Zk Zl IW IX IY IZ;clear d0 d1 d2 f0 f1 f2 f3 f4 f5;have J3:=J3.ext hy;have J4:=J4.ext hy;have J9:=J9.ext hy;have hB:=Ext.trans hB hy;have hx:=Ext.trans hx hy;clear hy;have Vw:V2.cell? ⟨g4,0,none⟩=some (.int .i64 id):=J4.cell 0;have Vx:V2.cell? ⟨g4,1,none⟩=some (.int .i64 ord):=J4.cell 1;have Zf:V2.cell? ⟨g4,2,none⟩=some (.int .i64 zx):=J4.cell 2;have Zg:V2.cell? ⟨g4,3,none⟩=some (.int .i64 sat):=J4.cell 3;have Zh:V2.cell? ⟨g4,4,none⟩=some (.int .i64 a):=J4.cell 4;have Zi:V2.cell? ⟨g4,5,none⟩=some (.int .i64 b):=J4.cell 5;have Zj:V2.cell? ⟨g4,6,none⟩=some (.int .i64 look):=J4.cell 6;have Zk:V2.cell? ⟨g4,7,none⟩=some (.int .i64 size):=J4.cell 7;have Zl:V2.cell? ⟨g4,8,none⟩=some (.slice (some ⟨gl,gq,none⟩) ln lc):=J4.cell 8;have IW:V2.cell? ⟨g3,0,none⟩=some (.int .i64 fO):=(J3.cell 0).trans VA;have IX:V2.cell? ⟨g3,9,none⟩=some (.int .i64 Dj):=(J3.cell 9).trans XR;have IY:V2.cell? ⟨g3,10,none⟩=some (.int .i64 VB):=(J3.cell 10).trans est;have IZ:V2.cell? ⟨g3,20,none⟩=some (.int .i64 XT):=(J3.cell 20).trans era;have d1:V2.cell? ⟨g9,1,none⟩=some (.int .i64 uf):=J9.cell 1;have d2:V2.cell? ⟨g9,2,none⟩=some (.int .i64 ut):=J9.cell 2;have f0:V2.cell? ⟨g10,0,none⟩=some (.int .i64 x0):=jr.cell 0;have f2:V2.cell? ⟨g10,2,none⟩=some (.int .i64 x2):=jr.cell 2;have f3:V2.cell? ⟨g10,3,none⟩=some (.int .i64 x3):=jr.cell 3;obtain⟨z1,hz1⟩:∃z,IntKind.i64.wrap (ut-uf)=z:=⟨_,rfl⟩;obtain⟨z2,hz2⟩:∃z,IntKind.i64.wrap (z1*XT)=z:=⟨_,rfl⟩;go_cut [162] from 104 to 162 (fun v wc=>∃q,v=.bool q∧wc=V2)
               case first =>
                by_cases a1:(x0==fO)=true
                ·skip;by_cases a2:¬uf<x2
                 ·skip;by_cases a3:¬x3<ut
                  ·skip;by_cases a4:uf<ut
                   ·skip;by_cases a5:¬uf<en
                    ·skip;by_cases a6:¬z2<size
                     ·skip;go_wp2_with fail
                      all_goals (go_meet;case rel=>exact⟨_,rfl,rfl⟩)
                     ·skip;go_wp2_with fail
                      all_goals (go_meet;case rel=>exact⟨_,rfl,rfl⟩)
                    ·skip;go_wp2_with fail
                     all_goals (go_meet;case rel=>exact⟨_,rfl,rfl⟩)
                   ·skip;have a4b:ut≤uf:=by omega
                    clear a4;go_wp2_with fail
                    all_goals (go_meet;case rel=>exact⟨_,rfl,rfl⟩)
                  ·skip;go_wp2_with fail
                   all_goals (go_meet;case rel=>exact⟨_,rfl,rfl⟩)
                 ·skip;go_wp2_with fail
                  all_goals (go_meet;case rel=>exact⟨_,rfl,rfl⟩)
                ·skip;go_wp2_with fail
                 all_goals (go_meet;case rel=>exact⟨_,rfl,rfl⟩)
               obtain⟨q,rfl,rfl⟩:=hcut;clear hz1 hz2;cases q
               ·skip;go_wp2;go_roundw
                case rel=>exact⟨k+1,_,by omega,rfl,by go_num,hx⟩
                case measure=>simp[intOf];omega
               ·skip;go_wp2;go_ret;exact⟨⟨_,rfl⟩,hB⟩
             ·skip;have hkz:¬(k:Int)<(ln:Int):=by omega
              go_wp2;go_ret;exact⟨⟨_,rfl⟩,hB⟩
         ·skip;have hb2:(1000000:Int)<b:=by omega
          go_wp2;go_ret;exact⟨⟨_,rfl⟩,hB⟩
      ·skip;have hq2:(sat==fO)=false:=by simp[hq]
       go_wp2;go_ret;exact⟨⟨_,rfl⟩,hB⟩
end Go.Proofs.YtjidhhfabfnhnaaGreat
namespace Go.Proofs.YtjidhhfabfnhnaaGreat
open Go.RowKit
def One (g:Nat) (w w':World):Prop:=w.grownBy w' (some g)
section
variable {g g':Nat} {w w' w'':World}
theorem One.refl (g:Nat) (w:World):One g w w:=⟨rfl,rfl,rfl,Nat.le_refl _,fun _ _ _=>rfl⟩
theorem One.trans (h:One g w w') (k:One g w' w''):One g w w'':=⟨k.os.trans h.os,k.tape.trans h.tape,k.output.trans h.output,Nat.le_trans h.size k.size,fun i hi hr=>(k.block i (Nat.lt_of_lt_of_le hi h.size) hr).trans (h.block i hi hr)⟩
theorem One.set (h:One g w w') (i:Nat) (v:Value):One g w (w'.setCell ⟨g,i,none⟩ v) :=
 h.trans ⟨rfl,rfl,rfl,by simp[World.setCell],fun k _ hk=>Below.heap_setCell _ _ _ k (fun e=>hk (by rw[e]))⟩
theorem One.row (h:One g w w') (cs:Array Value):One g w (w'.setRow g cs) :=
 h.trans ⟨rfl,rfl,rfl,by simp,fun k _ hk=>setRow_other _ _ _ _ (fun e=>hk (by rw[e]))⟩
theorem One.cell (h:One g w w') {p:Addr} {v:Value} (hc:w.cell? p=some v) (hp:p.block≠g):w'.cell? p=some v:=World.grownBy.cell h hc (fun e=>hp (by injection e))
theorem One.blk (h:One g w w') {t:TypeId} {cs:Array Value} (hb:aG w g' t cs) (hp:g'≠g):aG w' g' t cs:=hb.grown h (fun e=>hp (by injection e))
theorem One.own (h:One g w w') {b s n:Nat} {t t':TypeId} {v:Value} {xs:List Value} {cs:Array Value} (ho:w.ownsRow b t s v n xs) (hb:aG w g t' cs) (hne:t≠t'):w'.ownsRow b t s v n xs:=by
 have hne:=bQ ho hb hne;refine⟨ho.1,?_⟩;rcases ho.2 with hn | ⟨k,cap,cur,rfl,hb2,hgg,r⟩
 ·exact .inl hn
 ·exact .inr ⟨k,cap,cur,rfl,hb2,(h.block k (Array.getElem?_eq_some_iff.1 hgg).1 (fun e=>hne (by rw[←e];rfl))).trans hgg,r⟩
theorem One.ext (k:One g w' w'') (h:Ext w w') (hg:w.heap.size≤g):Ext w w'':=h.grown k (Below.size h) (fun q e=>by injection e with e;omega)
end
def uj (W:World) (b:Nat) (v:Value) (l:List xu):Prop:=W.ownsRow b 103 3 v l.length (l.flatMap dR)
theorem uj.ext {W W':World} {b:Nat} {v:Value} {l:List xu} (h:uj W b v l) (hx:Ext W W'):uj W' b v l:=bT h hx
theorem Uo:(Tryz.prog.info? 103).map (fun i=>(i.zero,i.size,i.bytes))=some (some (.agg #[.int .i64 0,.int .i64 0,.int .i64 0]),3,24):=by kernel_rfl
theorem Ur {w:World} (ty:TypeId) (xs:List xu) (v:Value) (x:xu) (base gx:Nat) (jx:aG w gx 103 (dR x).toArray) (hx:uj w base v xs) (hn:xs.length≤900) (hb:base≤w.heap.size) :
  ∃v' w',(Builtin.append_ #[47,47] ty #[v,.slice (some ⟨gx,0,none⟩) 1 1]).run Tryz.prog w=.ok v' w'∧w.grownBy w' v.ownBlock∧uj w' base v' (xs++[x]):=by
 obtain⟨i0,hi0,hz0,hz1,hz2⟩:=info_parts Uo;obtain⟨v2,W7,hr,hrow2,hg2,-⟩:=run_append_own (P:=Tryz.prog) w base 47 ty 103 i0 _ 3 24 Tryz.underlying47 hi0 hz0 hz1 hz2 rfl (by omega) _ _ _ hx ⟨gx,0,none⟩ 1 1 (dR x) rfl (by intro i u hu;rw[Addr.add_lit,Nat.zero_add,jx.cell];simpa using hu) (by simp[dR,Value.oneCell']) (by unfold maxLen;omega) (by omega) hb;refine⟨v2,W7,hr,hg2,?_⟩;unfold uj;rw[List.length_append,List.flatMap_append];simpa using hrow2
theorem XU {w:World} {g base c3:Nat} {x0 x1 x2 x3 x4 x5 x6 x7:Value} {A3:Option Addr} {l:List xu} (y:xu) (gx:Nat) (jx:aG w gx 103 (dR y).toArray) (hj:aG w g 49 #[x0,x1,x2,x3,x4,x5,x6,x7,.slice A3 l.length c3]) (ho:uj w base (.slice A3 l.length c3) l) (hn:l.length≤900) (hb:base≤g) :
  ∃A7 c7 W7,(Builtin.append_ #[47,47] 47 #[.slice A3 l.length c3,.slice (some ⟨gx,0,none⟩) 1 1]).run Tryz.prog w=.ok (.slice A7 (l.length+1) c7) W7∧W7.cell? ⟨g,8,none⟩=some (.slice A3 l.length c3)∧W7.frozen? ⟨g,8,none⟩=false ∧
   aG (W7.setCell ⟨g,8,none⟩ (.slice A7 (l.length+1) c7)) g 49 #[x0,x1,x2,x3,x4,x5,x6,x7,.slice A7 (l.length+1) c7]∧uj (W7.setCell ⟨g,8,none⟩ (.slice A7 (l.length+1) c7)) base (.slice A7 (l.length+1) c7) (l++[y]) ∧
   ∀w0,Ext w0 w→w0.heap.size≤base→Ext w0 (W7.setCell ⟨g,8,none⟩ (.slice A7 (l.length+1) c7)):=by
 obtain⟨v7,W7,hrun,hg7,ho7⟩:=Ur 47 l (.slice A3 l.length c3) y base gx jx ho hn (Nat.le_trans hb (Nat.le_of_lt hj.lt));obtain⟨A7,c7,hv7,_,_⟩:=aX ho7;rw[List.length_append,List.length_singleton]at hv7;subst hv7;have hj7:=hj.grown hg7 (fun e=>bQ ho hj (by decide) e.symm);refine⟨A7,c7,W7,hrun,hj7.cell 8,hj7.frozen 8,hj7.cZ 8 _,One.own ((One.refl g W7).set 8 _) ho7 hj7 (by decide),fun w0 h0 h1=>?_⟩;exact (h0.grown hg7 (Below.size h0) (fun q e=>Nat.le_trans h1 (World.ownsRow.lt ho q e).1)).setCell (p:=⟨g,8,none⟩) (Nat.le_trans h1 hb) _
theorem tX {w w':World} {b b':Nat} {t t':TypeId} {s s':Nat} {v v':Value} {n n':Nat} {xs xs':List Value} (h:w.ownsRow b t s v n xs) (h':w.ownsRow b' t' s' v' n' xs') (ht:t≠t') (hg:w.grownBy w' v'.ownBlock):w'.ownsRow b t s v n xs:=by
 refine⟨h.1,?_⟩;rcases h.2 with hn | ⟨g,cap,cur,rfl,hb,hgg,r⟩
 ·exact .inl hn
 ·refine .inr ⟨g,cap,cur,rfl,hb,?_,r⟩;rw[hg.block g (Array.getElem?_eq_some_iff.1 hgg).1 ?_]
  ·exact hgg
  ·intro e;rcases h'.2 with ⟨hn,_⟩ | ⟨g',cap',cur',hv',hb',hgg',r'⟩
   ·rw[hn]at e;cases e
   ·rw[hv']at e;injection e with e;subst e;rw[hgg]at hgg';injection hgg' with h1;injection h1 with _ h2;exact ht h2
def ji (W:World) (b:Nat) (v:Value) (os:List iY):Prop:=W.ownsRow b 49 9 v os.length (os.flatMap dX)∧∀o∈os,o.ln=o.o.slots.length∧uj W b (.slice o.la o.ln o.lc) o.o.slots
theorem ji.nil (W:World) (b:Nat):ji W b (.slice none 0 0) []:=⟨World.ownsRow_nil _ _ _ _,fun x hx=>by cases hx⟩
theorem ji.ext {W W':World} {b:Nat} {v:Value} {os:List iY} (h:ji W b v os) (hx:Ext W W'):ji W' b v os:=⟨bT h.1 hx,fun x hm=>⟨(h.2 x hm).1,bT (h.2 x hm).2 hx⟩⟩
theorem ji.base {W:World} {b b':Nat} {v:Value} {os:List iY} (h:ji W b v os) (hb:b'≤b):ji W b' v os:=⟨own_base h.1 hb,fun x hm=>⟨(h.2 x hm).1,own_base (h.2 x hm).2 hb⟩⟩
theorem I4:(Tryz.prog.info? 49).map (fun i=>(i.zero,i.size,i.bytes))=some (some (.agg #[.int .i64 0,.int .i64 0,.int .i64 0,.int .i64 0,.int .i64 0,.int .i64 0,.int .i64 0,.int .i64 0,.slice none 0 0]),9,88):=by kernel_rfl
theorem I5 {w:World} (ty:TypeId) (os:List iY) (v:Value) (x:iY) (base gx:Nat) (jx:aG w gx 49 (dX x).toArray) (h:ji w base v os) (hn:x.ln=x.o.slots.length) (ho:uj w base (.slice x.la x.ln x.lc) x.o.slots) (hl:os.length≤900) (hb:base≤w.heap.size) :
  ∃v' w',(Builtin.append_ #[35,35] ty #[v,.slice (some ⟨gx,0,none⟩) 1 1]).run Tryz.prog w=.ok v' w'∧w.grownBy w' v.ownBlock∧ji w' base v' (os++[x]):=by
 obtain⟨i0,hi0,hz0,hz1,hz2⟩:=info_parts I4;obtain⟨v2,W7,hr,hrow2,hg2,-⟩:=run_append_own (P:=Tryz.prog) w base 35 ty 49 i0 _ 9 88 Tryz.underlying35 hi0 hz0 hz1 hz2 rfl (by omega) _ _ _ h.1 ⟨gx,0,none⟩ 1 1 (dX x) rfl (by intro i u hu;rw[Addr.add_lit,Nat.zero_add,jx.cell];simpa using hu) (by simp[dX,xZ,Value.oneCell']) (by unfold maxLen;omega) (by omega) hb;refine⟨v2,W7,hr,hg2,?_,fun y hy=>?_⟩
 ·rw[List.length_append,List.flatMap_append];simpa using hrow2
 ·rcases List.mem_append.1 hy with hy | hy
  ·exact⟨(h.2 y hy).1,tX (h.2 y hy).2 h.1 (by decide) hg2⟩
  ·rw[List.mem_singleton.1 hy];exact⟨hn,tX ho h.1 (by decide) hg2⟩
structure A5 where
 a0:Int
 a1:Int
 a2:Int
 a3:Int
 a4:Int
def qJ (x:A5):List Value:=[.int .i64 x.a0,.int .i64 x.a1,.int .i64 x.a2,.int .i64 x.a3,.int .i64 x.a4]
theorem a5_len (x:A5):(qJ x).length=5:=rfl
def A5.ok (x:A5):Prop:=dG x.a0∧dG x.a1∧dG x.a2∧dG x.a3∧dG x.a4
def I7 (fO:Int) (P:List bP) (s:xu):Prop:=s.fr<s.tt∧∃(q:Nat) (h:q<P.length),s.p=(q:Int)∧P[q].sat=fO
def lV (fO:Int) (P:List bP) (o:wF):Prop:=o.sat=fO∧0≤o.a∧o.a<o.b∧o.b≤1000000∧o.b-o.a≤5∧∀s∈o.slots,I7 fO P s
theorem uj.ra {W:World} {b n:Nat} {A:Option Addr} {c:Nat} {l:List xu} (h:uj W b (.slice A n c) l) (hn:n=l.length) (hb:n≤1000000):RA dR 3 W W.heap.size A n c l:=by
 subst hn;exact RA.d_ h rfl (by omega)
end Go.Proofs.YtjidhhfabfnhnaaGreat
