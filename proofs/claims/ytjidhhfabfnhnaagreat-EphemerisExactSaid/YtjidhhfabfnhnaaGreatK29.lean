/- What all laws of the chapter rest on. -/
import Derived.Test.YtjidhhfabfnhnaaGreatK28
import Derived.Test.YtjidhhfabfnhnaaGreatRows
import Derived.ProofKit
import Derived.OpenShut
import Derived.ChangeOld
import Derived.Below
import Derived.Deep.Slices
import Derived.Test.YtjidhhfabfnhnaaGreatK10
import Derived.Test.YtjidhhfabfnhnaaGreatK23
import Derived.Test.YtjidhhfabfnhnaaGreatK16
import Derived.Test.YtjidhhfabfnhnaaGreatK26
namespace Go.Proofs.YtjidhhfabfnhnaaGreat
open Go.RowKit
attribute [local go_sem] Oper.semAt_some
theorem lpick36_any (c n : Int) (w : World) (h1 : -9223372036854775808 ≤ c) (h2 : c ≤ 9223372036854775807) (hn : 0 < n) (hn2 : n ≤ 1000000) :
  Calls Tryz.prog 13 #[.int .i64 c,.int .i64 n] w fun e w' => e = .returned (.int .i64 (pickI c n)) ∧ w = w':=by
 have hn0 : ¬ n = 0:=by omega
 have hn1 : (n == 0) = false:=by simp; omega
 by_cases hc : c < 0
 ·have hp : pickI c n = -((c + 1).tmod n):=by unfold pickI; rw [if_pos hc,← Int.tmod_eq_emod_of_nonneg (by omega),Int.neg_tmod]
  have hb:=pickI_bd c n hn
  rw [hp] at hb ⊢
  have hb1:=hb.1
  have hb2:=hb.2
  clear hb hp
  go_enter Tryz.func13,Tryz.ntmps13
  go_wp2
  go_ret
  exact ⟨rfl,rfl⟩
 ·have hp : pickI c n = c % n:=by unfold pickI; rw [if_neg hc]
  have hb:=pickI_bd c n hn
  rw [hp] at hb ⊢
  have hb1:=hb.1
  have hb2:=hb.2
  clear hb hp
  go_enter Tryz.func13,Tryz.ntmps13
  go_wp2
  go_ret
  exact ⟨rfl,rfl⟩
structure Cas where
 x : List A7
 y : List A4
 z : List A4
 u : List A4
 fr : Int
 lo : Int
 xa : Option Addr
 xn : Nat
 xc : Nat
 ya : Option Addr
 yn : Nat
 yc : Nat
 za : Option Addr
 zn : Nat
 zc : Nat
 ua : Option Addr
 un : Nat
 uc : Nat
def casV (c : Cas) : Value:=.agg #[.slice c.xa c.xn c.xc,.slice c.ya c.yn c.yc,.slice c.za c.zn c.zc,.slice c.ua c.un c.uc,.int .i64 c.fr,.int .i64 c.lo]
structure CasR (W : World) (c : Cas) : Prop where
 x : RA a7Cells 7 W W.heap.size c.xa c.xn c.xc c.x
 y : RA a4Cells 4 W W.heap.size c.ya c.yn c.yc c.y
 z : RA a4Cells 4 W W.heap.size c.za c.zn c.zc c.z
 u : RA a4Cells 4 W W.heap.size c.ua c.un c.uc c.u
 xo : ∀ a ∈ c.x,a.ok
 yo : ∀ a ∈ c.y,a.ok
 zo : ∀ a ∈ c.z,a.ok
 uo : ∀ a ∈ c.u,a.ok
 fr : I64ok c.fr
 lo : I64ok c.lo
theorem CasR.ext {W W' : World} {c : Cas} (h : CasR W c) (hx : Ext W W') : CasR W' c:=⟨ra_ext h.x hx,ra_ext h.y hx,ra_ext h.z hx,ra_ext h.u hx,h.xo,h.yo,h.zo,h.uo,h.fr,h.lo⟩
def satsC (c : Cas) : List St:=satsP (c.x.take 2) c.y
def stnsC (c : Cas) : List Stn:=stnsP (c.z.take 2)
def frC (c : Cas) : Int:=pickI c.fr 900000
def updsC (c : Cas) : List Upd:=updsP (satsC c) (frC c) c.u
def endC (c : Cas) : Int:=frC c + 1 + pickI c.lo 200
theorem flat_take6 {α : Type} {cells : α → List Value} {s : Nat} (hs : ∀ x,(cells x).length = s) (l : List α) (k : Nat) : (l.take k).flatMap cells = (l.flatMap cells).take (k * s):=by
 induction l generalizing k with
 | nil => simp
 | cons x r ih =>
  cases k with
  | zero => simp
  | succ k =>
   rw [List.take_succ_cons,List.flatMap_cons,List.flatMap_cons,ih,List.take_append,hs,Nat.succ_mul,List.take_of_length_le (l:=cells x) (i:=k * s + s) (by rw [hs]; omega),Nat.add_sub_cancel]
theorem RA.cut6 {α : Type} {cells : α → List Value} {s : Nat} (hs : ∀ x,(cells x).length = s) {w : World} {B n c : Nat} {A : Option Addr} {l : List α} (h : RA cells s w B A n c l) (k : Nat) (hk : k ≤ n) : RA cells s w B A k c (l.take k):=by
 refine ⟨?_,by rw [List.length_take,h.len]; omega,Nat.le_trans hk h.cap,h.capM,Nat.le_trans hk h.le⟩
 rw [flat_take6 hs]
 exact h.rd.upto hk
theorem own_slice3 {w : World} {base : Nat} {e : TypeId} {size : Nat} {v : Value} {n : Nat} {xs : List Value} (h : w.ownsRow base e size v n xs) : ∃ A c,v = .slice A n c ∧ (A = none → n = 0 ∧ c = 0):=by
 rcases h.2 with ⟨rfl,h0⟩ | ⟨g,cap,cur,rfl,_⟩
 ·first | exact ⟨none,0,by rw [h0],fun _ => ⟨h0,rfl⟩⟩ | (have:=h.1; exact ⟨none,0,by simp_all,fun _ => by simp_all⟩)
 ·exact ⟨_,_,rfl,fun h => by cases h⟩
theorem own_row3 {w : World} {base : Nat} {e : TypeId} {size : Nat} {v : Value} {n : Nat} {xs : List Value} (h : w.ownsRow base e size v n xs) {g : Nat} (hg : g < base) (X : Array Value) : (w.setRow g X).ownsRow base e size v n xs:=by
 refine ⟨h.1,?_⟩
 rcases h.2 with hn | ⟨b,cap,cur,rfl,hb,hgg,r⟩
 ·exact .inl hn
 ·exact .inr ⟨b,cap,cur,rfl,hb,(setRow_other w g b X (by omega)).trans hgg,r⟩
theorem satsC_len (c : Cas) : (satsC c).length ≤ 2:=by unfold satsC satsP; rw [satsK_len,List.length_take]; omega
theorem updsP_len (sats : List St) (fr : Int) (x : List A4) : (updsP sats fr x).length ≤ 6:=by
 unfold updsP
 split
 ·simp
 ·rw [updsK_len]; omega
theorem satsC_ok (c : Cas) : ∀ s ∈ satsC c,satOK s = true:=by
 intro s hs
 unfold satsC satsP satsK at hs
 obtain ⟨i,_,rfl⟩:=List.mem_map.1 hs
 exact satA_ok _ _ _
theorem satOK_orb {s : St} (h : satOK s = true) : orbOK s.orbit = true:=by
 unfold satOK at h
 simp only [Bool.and_eq_true] at h
 simp [h]
theorem frC_bd (c : Cas) : 0 ≤ frC c ∧ frC c < 900000:=pickI_bd _ _ (by omega)
theorem endC_bd (c : Cas) : frC c < endC c ∧ endC c ≤ frC c + 200:=by have:=pickI_bd c.lo 200 (by omega); unfold endC; omega
def MadRet (c : Cas) (w : World) (e : Ending) (w' : World) : Prop:=∃ A1 n1 c1 A2 n2 c2 A3 n3 c3,e = .returned (.tuple #[.slice A1 n1 c1,.slice A2 n2 c2,.slice A3 n3 c3,.agg #[.int .i64 (frC c),.int .i64 (endC c)]]) ∧ RA satCells 21 w' w'.heap.size A1 n1 c1 (satsC c) ∧ RA stnCells 6 w' w'.heap.size A2 n2 c2 (stnsC c) ∧ RA updCells 10 w' w'.heap.size A3 n3 c3 (updsC c) ∧ (A3 = none → n3 = 0 ∧ c3 = 0) ∧ Ext w w'
set_option maxHeartbeats 4000000 in
set_option maxRecDepth 100000 in
theorem made36_any (c : Cas) (w : World) (h : CasR w c) : Calls Tryz.prog 11 #[casV c] w (MadRet c w):=by
 have hsl:=satsC_len c
 have hsok:=satsC_ok c
 have hfb:=frC_bd c
 obtain ⟨S,hS⟩ : ∃ S,S = satsC c:=⟨_,rfl⟩
 obtain ⟨ST,hST⟩ : ∃ S,S = stnsC c:=⟨_,rfl⟩
 obtain ⟨US,hUS⟩ : ∃ S,S = updsC c:=⟨_,rfl⟩
 obtain ⟨f0,hf0⟩ : ∃ S,S = frC c:=⟨_,rfl⟩
 obtain ⟨e0,he0⟩ : ∃ S,S = endC c:=⟨_,rfl⟩
 have HMR : Hid (∀ e w',(∃ A1 n1 c1 A2 n2 c2 A3 n3 c3,e = .returned (.tuple #[.slice A1 n1 c1,.slice A2 n2 c2,.slice A3 n3 c3,.agg #[.int .i64 f0,.int .i64 e0]]) ∧ RA satCells 21 w' w'.heap.size A1 n1 c1 S ∧ RA stnCells 6 w' w'.heap.size A2 n2 c2 ST ∧ RA updCells 10 w' w'.heap.size A3 n3 c3 US ∧ (A3 = none → n3 = 0 ∧ c3 = 0) ∧ Ext w w') → MadRet c w e w'):=Lib.hid (by rw [hS,hST,hUS,hf0,he0]; exact fun _ _ h => h)
 have hupd : US = updsP S f0 c.u:=by rw [hUS,hS,hf0]; rfl
 have hend : e0 = f0 + 1 + pickI c.lo 200:=by rw [he0,hf0]; rfl
 have hfr : f0 = pickI c.fr 900000:=hf0
 have hso : ∀ s ∈ S,orbOK s.orbit = true:=by rw [hS]; exact fun s hs => satOK_orb (hsok s hs)
 have hSl : S.length ≤ 2:=by rw [hS]; exact hsl
 have hS2 : S = satsP (c.x.take 2) c.y:=hS
 have hST2 : ST = stnsP (c.z.take 2):=hST
 rw [← hf0] at hfb
 clear hsl hsok hS hST hUS hf0 he0
 obtain ⟨hfb1,hfb2⟩:=hfb
 obtain ⟨PR,hPR⟩ : ∃ P : Ending → World → Prop,P = MadRet c w:=⟨_,rfl⟩
 rw [← hPR]
 rw [← hPR] at HMR
 clear hPR
 obtain ⟨x,y,z,u,fr,lo,xa,xn,xc,ya,yn,yc,za,zn,zc,ua,un,uc⟩:=c
 obtain ⟨rx,ry,rz,ru,ox,oy,oz,ou,ofr,olo⟩:=h
 unfold casV
 dsimp only at *
 have hxle:=rx.le
 have hzle:=rz.le
 obtain ⟨m,hm⟩ : ∃ m,m = min xn 2:=⟨_,rfl⟩
 obtain ⟨m2,hm2⟩ : ∃ m,m = min zn 2:=⟨_,rfl⟩
 have hxc:=rx.cap
 have hzc:=rz.cap
 have hmx : m ≤ xn:=by omega
 have hmz : m2 ≤ zn:=by omega
 have rx2:=rx.cut6 a7_len m hmx
 have rz2:=rz.cut6 a4_len m2 hmz
 rw [show x.take m = x.take 2 by rw [hm,← rx.len,List.take_eq_take_iff]; omega] at rx2
 rw [show z.take m2 = z.take 2 by rw [hm2,← rz.len,List.take_eq_take_iff]; omega] at rz2
 have ox2 : ∀ a ∈ x.take 2,a.ok:=fun a ha => ox a (List.mem_of_mem_take ha)
 have oz2 : ∀ a ∈ z.take 2,a.ok:=fun a ha => oz a (List.mem_of_mem_take ha)
 have HIF : Hid ((if (2 : Int) < (xn : Int) then (2 : Int) else (xn : Int)) = (m : Int)):=Lib.hid (by split <;> omega)
 have HIF2 : Hid ((if (2 : Int) < (zn : Int) then (2 : Int) else (zn : Int)) = (m2 : Int)):=Lib.hid (by split <;> omega)
 have HSA : Hid (∀ W,Ext w W → Calls Tryz.prog 39 #[.slice xa m xc,.slice ya yn yc] W (ListRet satCells 21 53 S W)):=Lib.hid (fun W hx => by rw [hS2]; exact sats_any xa ya m xc yn yc _ y W (ra_ext rx2 hx) (ra_ext ry hx) ox2 oy)
 have HTA : Hid (∀ W,Ext w W → Calls Tryz.prog 40 #[.slice za m2 zc] W (ListRet stnCells 6 71 ST W)):=Lib.hid (fun W hx => by rw [hST2]; exact stations_any za m2 zc _ W (ra_ext rz2 hx) oz2)
 have HUA : Hid (∀ W SA sn sc,Ext w W → RA satCells 21 W W.heap.size SA sn sc S → Calls Tryz.prog 41 #[.slice SA sn sc,.int .i64 f0,.slice ua un uc] W (ListRet updCells 10 66 US W)):=Lib.hid (fun W SA sn sc hx hs => by rw [hupd]; exact upds_any S f0 u SA ua sn sc un uc W hs (ra_ext ru hx) ou (by have:=hs.len; omega) ⟨hfb1,by omega⟩ hso)
 have P1:=fun w => lpick36_any fr 900000 w ofr.1 ofr.2 (by omega) (by omega)
 have P2:=fun w => lpick36_any lo 200 w olo.1 olo.2 (by omega) (by omega)
 have q2:=pickI_bd lo 200 (by omega)
 rw [← hfr] at P1
 generalize pickI lo 200 = p2 at P2 q2 hend
 obtain ⟨q2a,q2b⟩:=q2
 have HP1:=Lib.hid P1
 have HP2:=Lib.hid P2
 have HEND:=Lib.hid hend
 have hul : US.length ≤ 6:=by rw [hupd]; exact updsP_len _ _ _
 have hstl : ST.length ≤ 2:=by rw [hST2]; unfold stnsP; rw [stnsK_len,List.length_take]; omega
 clear P1 P2 hend hfr hupd hso hS2 hST2 rx2 rz2 rx ry rz ru ox oy oz ou ox2 oz2 hm hm2 ofr olo
 go_enter Tryz.func11,Tryz.ntmps11
 go_upto_region 1 with (fail)
 obtain ⟨g1,hg1⟩ : ∃ g,g = w.heap.size:=⟨_,rfl⟩
 obtain ⟨g5,hg5⟩ : ∃ g,g = w.heap.size + 1:=⟨_,rfl⟩
 have J1 : Blk ((w.alloc (.cells #[.slice xa xn xc,.slice ya yn yc,.slice za zn zc,.slice ua un uc,.int .i64 fr,.int .i64 lo] 25)).alloc (.cells #[.int .i64 0,.int .i64 0] 32)) g1 25 #[.slice xa xn xc,.slice ya yn yc,.slice za zn zc,.slice ua un uc,.int .i64 fr,.int .i64 lo]:=(Blk.new_at _ _ _ (by simp [hg1])).alloc _
 have J5 : Blk ((w.alloc (.cells #[.slice xa xn xc,.slice ya yn yc,.slice za zn zc,.slice ua un uc,.int .i64 fr,.int .i64 lo] 25)).alloc (.cells #[.int .i64 0,.int .i64 0] 32)) g5 32 #[.int .i64 0,.int .i64 0]:=Blk.new_at _ _ _ (by simp [hg5])
 have hB : Ext w ((w.alloc (.cells #[.slice xa xn xc,.slice ya yn yc,.slice za zn zc,.slice ua un uc,.int .i64 fr,.int .i64 lo] 25)).alloc (.cells #[.int .i64 0,.int .i64 0] 32)):=bl_alloc (bl_alloc (Below.refl _ _) _) _
 have hl5 : w.heap.size ≤ g5:=by omega
 rw [← hg5,← hg1]
 generalize (w.alloc (.cells #[.slice xa xn xc,.slice ya yn yc,.slice za zn zc,.slice ua un uc,.int .i64 fr,.int .i64 lo] 25)).alloc (.cells #[.int .i64 0,.int .i64 0] 32) = W at J1 J5 hB ⊢
 clear hg1 hg5
 have h5W : g5 < W.heap.size:=J5.lt
 have k0 : W.cell? ⟨g1,0,none⟩ = some (.slice xa xn xc):=J1.cell 0
 have k1 : W.cell? ⟨g1,1,none⟩ = some (.slice ya yn yc):=J1.cell 1
 refine wp_region_obl 10 (fun ix vals v w1 => match ix with | 0 => v = .pointer (some ⟨g1,0,none⟩) | 1 => v = .slice xa xn xc | 2 => v = .pointer (some ⟨g1,0,none⟩) | 3 => v = .slice xa xn xc | 4 => v = .int .i64 (xn : Int) | 5 => v = .int .i64 (m : Int) | 6 => v = .slice xa m xc | 7 => v = .pointer (some ⟨g1,1,none⟩) | 8 => v = .slice ya yn yc | _ => ∃ SA sc,v = .slice SA S.length sc ∧ w1.ownsRow (g5 + 1) 53 21 (.slice SA S.length sc) S.length (S.flatMap satCells)) (by kernel_rfl) (by kernel_rfl) ?_ ?_ ?_ ?_
 ·intro ix vals v w1 w2 hi hr hx
  match ix,hr with
  | 0,hr => exact hr
  | 1,hr => exact hr
  | 2,hr => exact hr
  | 3,hr => exact hr
  | 4,hr => exact hr
  | 5,hr => exact hr
  | 6,hr => exact hr
  | 7,hr => exact hr
  | 8,hr => exact hr
  | (kx + 9),hr => obtain ⟨SA,sc,h1,h2⟩:=hr; exact ⟨SA,sc,h1,own_ext h2 hx⟩
 ·intro ix vals vals_ v w1 hi hv hr
  exact hr
 ·refine ⟨?_,?_,?_,?_,?_,?_,?_,?_,?_,?_,trivial⟩
  ·intro vals w1 hx hd ha
   clear hd ha
   simp only [Lf]
   go_wp2
   exact q_
  ·intro vals w1 hx hd ha
   have e0 : vals 0 = .pointer (some ⟨g1,0,none⟩):=hd 0 (by decide)
   clear hd ha
   simp only [Lf,dstAt,Act.put,FR_,e0]
   clear e0
   have k0:=ext_cell hx k0
   go_wp2
   exact q_
  ·intro vals w1 hx hd ha
   clear hd ha
   simp only [Lf,dstAt,Act.put,FR_]
   go_wp2
   exact q_
  ·intro vals w1 hx hd ha
   have e2 : vals 2 = .pointer (some ⟨g1,0,none⟩):=hd 2 (by decide)
   clear hd ha
   simp only [Lf,dstAt,Act.put,FR_,e2]
   clear e2
   have k0:=ext_cell hx k0
   go_wp2
   exact q_
  ·intro vals w1 hx hd ha
   have e3 : vals 3 = .slice xa xn xc:=hd 3 (by decide)
   clear hd ha
   simp only [Lf,dstAt,Act.put,FR_,e3]
   clear e3
   go_wp2
   exact q_
  ·intro vals w1 hx hd ha
   have e4 : vals 4 = .int .i64 (xn : Int):=hd 4 (by decide)
   clear hd ha
   simp only [Lf,dstAt,Act.put,FR_,e4]
   clear e4
   have hif:=HIF.out
   go_wp2
   exact q_
  ·intro vals w1 hx hd ha
   have e1 : vals 1 = .slice xa xn xc:=hd 1 (by decide)
   have e5 : vals 5 = .int .i64 (m : Int):=hd 5 (by decide)
   clear hd ha
   simp only [Lf,dstAt,Act.put,FR_,e1,e5]
   clear e1 e5
   go_wp2
   exact q_
  ·intro vals w1 hx hd ha
   clear hd ha
   simp only [Lf,dstAt,Act.put,FR_]
   go_wp2
   exact q_
  ·intro vals w1 hx hd ha
   have e7 : vals 7 = .pointer (some ⟨g1,1,none⟩):=hd 7 (by decide)
   clear hd ha
   simp only [Lf,dstAt,Act.put,FR_,e7]
   clear e7
   have k1:=ext_cell hx k1
   go_wp2
   exact q_
  ·intro vals w1 hx hd ha
   have e6 : vals 6 = .slice xa m xc:=hd 6 (by decide)
   have e8 : vals 8 = .slice ya yn yc:=hd 8 (by decide)
   clear hd ha
   simp only [Lf,dstAt,Act.put,FR_,e6]
   simp only [e8]
   clear e6 e8
   have hz:=Below.size hx.undrew
   go_wp2_with fail
   refine (HSA.out _ (Ext.trans hB hx.undrew)).mono ?_
   rintro e w2 ⟨v2,rfl,hown,hb2⟩
   obtain ⟨SA,sc,hv,_,_⟩:=own_slice hown
   subst hv
   have hown:=own_base hown (show g5 + 1 ≤ w1.heap.size by omega)
   have HOWN:=Lib.hid hown
   clear hown
   go_wp2
   exact ⟨rfl,hb2,SA,sc,rfl,HOWN.out⟩
 intro vals W1 hx hf
 obtain ⟨SA,sc,e9,OS⟩ : ∃ SA sc,vals 9 = .slice SA S.length sc ∧ W1.ownsRow (g5 + 1) 53 21 (.slice SA S.length sc) S.length (S.flatMap satCells):=hf 9 (by omega)
 have hx:=hx.undrew
 have J1:=J1.ext hx
 have J5:=J5.ext hx
 have hB:=Ext.trans hB hx
 have hBz:=hx.size
 clear hf hx k0 k1
 refine tail1 10 _ (by kernel_rfl) (by kernel_rfl) rfl ?_
 simp only [Lf,dstAt,Act.put,FR_]
 rw [e9]
 clear e9
 obtain ⟨sn,hsn⟩ : ∃ n,n = S.length:=⟨_,rfl⟩
 have RS:=RA.of_own (l:=S) OS rfl (by omega)
 rw [← hsn] at RS OS ⊢
 have hsn2 : sn ≤ 2:=by omega
 have HSN:=Lib.hid hsn
 clear hsn
 have k2 : W1.cell? ⟨g1,2,none⟩ = some (.slice za zn zc):=J1.cell 2
 have hif:=HIF2.out
 go_wp2_with fail
 refine (HTA.out _ hB).mono ?_
 rintro e W2 ⟨v2,rfl,hown,hx⟩
 obtain ⟨TA,tc,hv,_,_⟩:=own_slice hown
 subst hv
 have OT:=own_base hown (show g5 + 1 ≤ W1.heap.size by omega)
 have hBz2:=hx.size
 obtain ⟨tn,htn⟩ : ∃ n,n = ST.length:=⟨_,rfl⟩
 have HTN:=Lib.hid htn
 have htl : tn ≤ 2:=by omega
 rw [← htn] at OT ⊢
 clear htn hown k2 hif
 have OS:=own_ext OS hx
 have J1:=J1.ext hx
 have J5:=J5.ext hx
 have hB:=Ext.trans hB hx
 have RS:=ra_ext RS hx
 clear hx
 have k4 : W2.cell? ⟨g1,4,none⟩ = some (.int .i64 fr):=J1.cell 4
 go_wp2_with fail
 refine (HP1.out _).mono ?_
 rintro e w2 ⟨rfl,rfl⟩
 go_upto_region 4 with (fail)
 clear k4
 have k3 : W2.cell? ⟨g1,3,none⟩ = some (.slice ua un uc):=J1.cell 3
 have k5 : W2.cell? ⟨g1,5,none⟩ = some (.int .i64 lo):=J1.cell 5
 have u1_ : IntKind.i64.wrap (f0 + 1) = f0 + 1:=IntWalk.i64_in _ (by omega)
 have u2_ : IntKind.i64.wrap (f0 + 1 + p2) = f0 + 1 + p2:=IntWalk.i64_in _ (by omega)
 refine wp_region_obl 18 (fun ix vals v w1 => match ix with | 0 => v = .slice SA sn sc | 1 => v = .slice TA tn tc | 2 => v = .slice SA sn sc | 3 => v = .int .i64 f0 | 4 => v = .pointer (some ⟨g1,3,none⟩) | 5 => v = .slice ua un uc | 6 => ∃ UA uc,v = .slice UA US.length uc ∧ w1.ownsRow (g5 + 1) 66 10 (.slice UA US.length uc) US.length (US.flatMap updCells) ∧ (UA = none → US.length = 0 ∧ uc = 0) | 7 => v = .int .i64 f0 | 8 => v = .int .i64 f0 | 9 => v = .int .i64 (f0 + 1) | 10 => v = .pointer (some ⟨g1,5,none⟩) | 11 => v = .int .i64 lo | 12 => v = .int .i64 p2 | 13 => v = .int .i64 (f0 + 1 + p2) | 14 => v = .agg #[.int .i64 f0,.int .i64 (f0 + 1 + p2)] | 15 => v = .slice SA sn sc | 16 => v = .slice TA tn tc | _ => v = vals 6) (by kernel_rfl) (by kernel_rfl) ?_ ?_ ?_ ?_
 ·intro ix vals v w1 w2 hi hr hx
  match ix,hr with
  | 0,hr => exact hr
  | 1,hr => exact hr
  | 2,hr => exact hr
  | 3,hr => exact hr
  | 4,hr => exact hr
  | 5,hr => exact hr
  | 6,hr => obtain ⟨UA,uc,h1,h2,h3⟩:=hr; exact ⟨UA,uc,h1,own_ext h2 hx,h3⟩
  | 7,hr => exact hr
  | 8,hr => exact hr
  | 9,hr => exact hr
  | 10,hr => exact hr
  | 11,hr => exact hr
  | 12,hr => exact hr
  | 13,hr => exact hr
  | 14,hr => exact hr
  | 15,hr => exact hr
  | 16,hr => exact hr
  | (kx + 17),hr => exact hr
 ·intro ix vals vals_ v w1 hi hv hr
  match ix,hi,hv,hr with
  | 0,_,_,hr => exact hr
  | 1,_,_,hr => exact hr
  | 2,_,_,hr => exact hr
  | 3,_,_,hr => exact hr
  | 4,_,_,hr => exact hr
  | 5,_,_,hr => exact hr
  | 6,_,_,hr => exact hr
  | 7,_,_,hr => exact hr
  | 8,_,_,hr => exact hr
  | 9,_,_,hr => exact hr
  | 10,_,_,hr => exact hr
  | 11,_,_,hr => exact hr
  | 12,_,_,hr => exact hr
  | 13,_,_,hr => exact hr
  | 14,_,_,hr => exact hr
  | 15,_,_,hr => exact hr
  | 16,_,_,hr => exact hr
  | (kx + 17),hi,hv,hr => obtain rfl : kx = 0:=(by omega); have e6:=hv 6 (by kernel_rfl); rw [← e6]; exact hr
 ·refine ⟨?_,?_,?_,?_,?_,?_,?_,?_,?_,?_,?_,?_,?_,?_,?_,?_,?_,?_,trivial⟩
  ·intro vals w1 hx hd ha
   clear hd ha
   simp only [Lf]
   go_wp2
   exact q_
  ·intro vals w1 hx hd ha
   clear hd ha
   simp only [Lf,dstAt,Act.put,FR_]
   go_wp2
   exact q_
  ·intro vals w1 hx hd ha
   clear hd ha
   simp only [Lf,dstAt,Act.put,FR_]
   go_wp2
   exact q_
  ·intro vals w1 hx hd ha
   clear hd ha
   simp only [Lf,dstAt,Act.put,FR_]
   go_wp2
   exact q_
  ·intro vals w1 hx hd ha
   clear hd ha
   simp only [Lf,dstAt,Act.put,FR_]
   go_wp2
   exact q_
  ·intro vals w1 hx hd ha
   have e4 : vals 4 = .pointer (some ⟨g1,3,none⟩):=hd 4 (by decide)
   clear hd ha
   simp only [Lf,dstAt,Act.put,FR_,e4]
   clear e4
   have k3:=ext_cell hx k3
   go_wp2
   exact q_
  ·intro vals w1 hx hd ha
   have e2 : vals 2 = .slice SA sn sc:=hd 2 (by decide)
   have e3 : vals 3 = .int .i64 f0:=hd 3 (by decide)
   have e5 : vals 5 = .slice ua un uc:=hd 5 (by decide)
   clear hd ha
   simp only [Lf,dstAt,Act.put,FR_,e2]
   simp only [e3]
   simp only [e5]
   clear e2 e3 e5
   have hz:=Below.size hx.undrew
   go_wp2_with fail
   refine (HUA.out _ _ _ _ (Ext.trans hB hx.undrew) (ra_ext RS hx.undrew)).mono ?_
   rintro e w2 ⟨v2,rfl,hown,hb2⟩
   obtain ⟨UA,uc,hv,hnil⟩:=own_slice3 hown
   subst hv
   have hown:=own_base hown (show g5 + 1 ≤ w1.heap.size by omega)
   have HOWN:=Lib.hid hown
   have HNIL:=Lib.hid hnil
   clear hown hnil
   go_wp2
   exact ⟨rfl,hb2,UA,uc,rfl,HOWN.out,HNIL.out⟩
  ·intro vals w1 hx hd ha
   clear hd ha
   simp only [Lf,dstAt,Act.put,FR_]
   go_wp2
   exact q_
  ·intro vals w1 hx hd ha
   clear hd ha
   simp only [Lf,dstAt,Act.put,FR_]
   go_wp2
   exact q_
  ·intro vals w1 hx hd ha
   have e8 : vals 8 = .int .i64 f0:=hd 8 (by decide)
   clear hd ha
   simp only [Lf,dstAt,Act.put,FR_,e8]
   clear e8
   go_wp2
   exact q_
  ·intro vals w1 hx hd ha
   clear hd ha
   simp only [Lf,dstAt,Act.put,FR_]
   go_wp2
   exact q_
  ·intro vals w1 hx hd ha
   have e10 : vals 10 = .pointer (some ⟨g1,5,none⟩):=hd 10 (by decide)
   clear hd ha
   simp only [Lf,dstAt,Act.put,FR_,e10]
   clear e10
   have k5:=ext_cell hx k5
   go_wp2
   exact q_
  ·intro vals w1 hx hd ha
   have r6 : (fun v w1 => ∃ UA uc,v = .slice UA US.length uc ∧ w1.ownsRow (g5 + 1) 66 10 (.slice UA US.length uc) US.length (US.flatMap updCells) ∧ (UA = none → US.length = 0 ∧ uc = 0)) (vals 6) w1:=hd 6 (by decide)
   dsimp only at r6
   have e11 : vals 11 = .int .i64 lo:=hd 11 (by decide)
   clear hd ha
   simp only [Lf,dstAt,Act.put,FR_,e11]
   clear e11
   go_wp2_with fail
   refine (HP2.out _).mono ?_
   rintro e w2 ⟨rfl,rfl⟩
   go_wp2
   exact q_
  ·intro vals w1 hx hd ha
   have e9 : vals 9 = .int .i64 (f0 + 1):=hd 9 (by decide)
   have e12 : vals 12 = .int .i64 p2:=hd 12 (by decide)
   clear hd ha
   simp only [Lf,dstAt,Act.put,FR_,e9,e12]
   clear e9 e12
   go_wp2
   exact q_
  ·intro vals w1 hx hd ha
   have e7 : vals 7 = .int .i64 f0:=hd 7 (by decide)
   have e13 : vals 13 = .int .i64 (f0 + 1 + p2):=hd 13 (by decide)
   clear hd ha
   simp only [Lf,dstAt,Act.put,FR_,e7,e13]
   clear e7 e13
   go_wp2
   exact q_
  ·intro vals w1 hx hd ha
   have e0 : vals 0 = .slice SA sn sc:=hd 0 (by decide)
   have e12 : vals 12 = .int .i64 p2:=hd 12 (by decide)
   clear hd ha
   simp only [Lf,dstAt,Act.put,FR_,e0,e12]
   clear e0 e12
   go_wp2
   exact q_
  ·intro vals w1 hx hd ha
   have e0 : vals 0 = .slice SA sn sc:=hd 0 (by decide)
   have e1 : vals 1 = .slice TA tn tc:=hd 1 (by decide)
   have e15 : vals 15 = .slice SA sn sc:=hd 15 (by decide)
   clear hd ha
   simp only [Lf,dstAt,Act.put,FR_,e0,e1,e15]
   clear e0 e1 e15
   go_wp2
   exact q_
  ·intro vals w1 hx hd ha
   have e0 : vals 0 = .slice SA sn sc:=hd 0 (by decide)
   have e1 : vals 1 = .slice TA tn tc:=hd 1 (by decide)
   have e2 : vals 2 = .slice SA sn sc:=hd 2 (by decide)
   have e3 : vals 3 = .int .i64 f0:=hd 3 (by decide)
   have e4 : vals 4 = .pointer (some ⟨g1,3,none⟩):=hd 4 (by decide)
   have e5 : vals 5 = .slice ua un uc:=hd 5 (by decide)
   have r6 : (fun v w1 => ∃ UA uc,v = .slice UA US.length uc ∧ w1.ownsRow (g5 + 1) 66 10 (.slice UA US.length uc) US.length (US.flatMap updCells) ∧ (UA = none → US.length = 0 ∧ uc = 0)) (vals 6) w1:=hd 6 (by decide)
   dsimp only at r6
   have e15 : vals 15 = .slice SA sn sc:=hd 15 (by decide)
   have e16 : vals 16 = .slice TA tn tc:=hd 16 (by decide)
   clear hd ha
   simp only [Lf,dstAt,Act.put,FR_,e0,e1,e2,e3,e4,e5,e15,e16]
   clear e0 e1 e2 e3 e4 e5 e15 e16
   go_wp2
   exact q_
 intro vals W3 hx hf
 have e0_ : vals 15 = .slice SA sn sc:=hf 15 (by omega)
 have e1_ : vals 16 = .slice TA tn tc:=hf 16 (by omega)
 have e17_ : vals 17 = vals 6:=hf 17 (by omega)
 obtain ⟨UA,uc2,e6_,OU,hnil⟩ : ∃ UA uc,vals 6 = .slice UA US.length uc ∧ W3.ownsRow (g5 + 1) 66 10 (.slice UA US.length uc) US.length (US.flatMap updCells) ∧ (UA = none → US.length = 0 ∧ uc = 0):=hf 6 (by omega)
 have e14_ : vals 14 = .agg #[.int .i64 f0,.int .i64 (f0 + 1 + p2)]:=hf 14 (by omega)
 have hx:=hx.undrew
 have J5:=J5.ext hx
 have hB:=Ext.trans hB hx
 have OS:=own_ext OS hx
 have OT:=own_ext OT hx
 clear hf hx k3 k5 J1 RS
 refine tail1 18 _ (by kernel_rfl) (by kernel_rfl) rfl ?_
 simp only [Lf,dstAt,Act.put,FR_]
 rw [e17_,e0_,e1_,e6_,e14_]
 clear e0_ e1_ e6_ e14_ e17_
 have HNIL:=Lib.hid hnil
 have l5:=J5.lt
 refine wpList_store_row rfl 32 _ _ rfl g5 #[.int .i64 f0,.int .i64 (f0 + 1 + p2)] rfl rfl 32 _ J5 (by kernel_rfl) rfl (by simp [Value.oneCell']) ?_
 have OS:=own_row3 OS (Nat.lt_succ_self g5) #[.int .i64 f0,.int .i64 (f0 + 1 + p2)]
 have OT:=own_row3 OT (Nat.lt_succ_self g5) #[.int .i64 f0,.int .i64 (f0 + 1 + p2)]
 have OU:=own_row3 OU (Nat.lt_succ_self g5) #[.int .i64 f0,.int .i64 (f0 + 1 + p2)]
 have J5:=J5.row #[.int .i64 f0,.int .i64 (f0 + 1 + p2)]
 have hE:=below_setRow hB (g:=g5) hl5 #[.int .i64 f0,.int .i64 (f0 + 1 + p2)]
 generalize W3.setRow g5 #[.int .i64 f0,.int .i64 (f0 + 1 + p2)] = W4 at J5 hE OS OT OU ⊢
 have c0_ : W4.cell? ⟨g5,0,none⟩ = some (.int .i64 f0):=J5.cell 0
 have c1_ : W4.cell? ⟨g5,1,none⟩ = some (.int .i64 (f0 + 1 + p2)):=J5.cell 1
 have HOS:=Lib.hid OS
 have HOT:=Lib.hid OT
 have HOU:=Lib.hid OU
 have HE:=Lib.hid hE
 clear OS OT OU hE hB J5 hnil
 go_wp2
 exact bodyPost_ret (show (results _ _).run _ _ = .ok (.tuple #[.slice SA sn sc,.slice TA tn tc,.slice UA US.length uc2,.agg #[.int .i64 f0,.int .i64 (f0 + 1 + p2)]]) _ by simp [results,Tryz.results11,go_sem,c0_,c1_]) rfl (HMR.out _ _ ⟨SA,sn,sc,TA,tn,tc,UA,US.length,uc2,by rw [HEND.out],RA.of_own HOS.out HSN.out.symm (by omega),RA.of_own HOT.out HTN.out.symm (by omega),RA.of_own HOU.out rfl (by omega),HNIL.out,HE.out⟩)
end Go.Proofs.YtjidhhfabfnhnaaGreat
namespace Go.Proofs.YtjidhhfabfnhnaaGreat
open Go.ChangeShapes Go.WideShapes Go.ChangeAt Go.RowKit Go.Deep
theorem ownKn : ownKnob Tryz.prog.godebug = none:=by kernel_rfl
theorem laidOut : laidOutB Tryz.prog = true:=by kernel_rfl
theorem i64_of_wf {n : Int} (h : (Lit.int .i64 n).wf = true) : I64ok n:=by
 simpa [I64ok,Lit.wf,IntKind.min,IntKind.max,IntKind.signed,IntKind.bits] using h
section
variable {H : Type} {enc : TypeId × Value → H} {W : World} {base : Nat} {spare : Nat → Bool} {held : Bool}
set_option maxRecDepth 100000 in
theorem open_A4 {cs : List Value} {n : Nat} {x : DataW H × List MemPlace} (h : DataW.trod enc Tryz.prog W base spare held n 151 cs = some x) : ∃ q : A4,q.ok ∧ cs = a4Cells q:=by
 obtain ⟨xs,m,_,_,hlen,hxl,hg⟩:=DataW.trod_array Tryz.underlying151 h
 have hc4 : Tryz.prog.cellsOf 151 = 4:=by kernel_rfl
 have hc1 : Tryz.prog.cellsOf 3 = 1:=by kernel_rfl
 rw [hc4] at hlen
 match cs,hlen with
 | [c0,c1,c2,c3],_ =>
  have g0:=hg 0 (by omega)
  have g1:=hg 1 (by omega)
  have g2:=hg 2 (by omega)
  have g3:=hg 3 (by omega)
  rw [hc1] at g0 g1 g2 g3
  match xs,hxl with
  | [y0,y1,y2,y3],_ =>
   simp at g0 g1 g2 g3
   obtain ⟨a0,e0,_,w0⟩:=DataW.trod_int Tryz.underlying3 g0
   obtain ⟨a1,e1,_,w1⟩:=DataW.trod_int Tryz.underlying3 g1
   obtain ⟨a2,e2,_,w2⟩:=DataW.trod_int Tryz.underlying3 g2
   obtain ⟨a3,e3,_,w3⟩:=DataW.trod_int Tryz.underlying3 g3
   simp at e0 e1 e2 e3
   subst e0 e1 e2 e3
   exact ⟨⟨a0,a1,a2,a3⟩,⟨i64_of_wf w0,i64_of_wf w1,i64_of_wf w2,i64_of_wf w3⟩,rfl⟩
set_option maxRecDepth 100000 in
theorem open_A7 {cs : List Value} {n : Nat} {x : DataW H × List MemPlace} (h : DataW.trod enc Tryz.prog W base spare held n 153 cs = some x) : ∃ q : A7,q.ok ∧ cs = a7Cells q:=by
 obtain ⟨xs,m,_,_,hlen,hxl,hg⟩:=DataW.trod_array Tryz.underlying153 h
 have hc4 : Tryz.prog.cellsOf 153 = 7:=by kernel_rfl
 have hc1 : Tryz.prog.cellsOf 3 = 1:=by kernel_rfl
 rw [hc4] at hlen
 match cs,hlen with
 | [c0,c1,c2,c3,c4,c5,c6],_ =>
  have g0:=hg 0 (by omega)
  have g1:=hg 1 (by omega)
  have g2:=hg 2 (by omega)
  have g3:=hg 3 (by omega)
  have g4:=hg 4 (by omega)
  have g5:=hg 5 (by omega)
  have g6:=hg 6 (by omega)
  rw [hc1] at g0 g1 g2 g3 g4 g5 g6
  match xs,hxl with
  | [y0,y1,y2,y3,y4,y5,y6],_ =>
   simp at g0 g1 g2 g3 g4 g5 g6
   obtain ⟨a0,e0,_,w0⟩:=DataW.trod_int Tryz.underlying3 g0
   obtain ⟨a1,e1,_,w1⟩:=DataW.trod_int Tryz.underlying3 g1
   obtain ⟨a2,e2,_,w2⟩:=DataW.trod_int Tryz.underlying3 g2
   obtain ⟨a3,e3,_,w3⟩:=DataW.trod_int Tryz.underlying3 g3
   obtain ⟨a4,e4,_,w4⟩:=DataW.trod_int Tryz.underlying3 g4
   obtain ⟨a5,e5,_,w5⟩:=DataW.trod_int Tryz.underlying3 g5
   obtain ⟨a6,e6,_,w6⟩:=DataW.trod_int Tryz.underlying3 g6
   simp at e0 e1 e2 e3 e4 e5 e6
   subst e0 e1 e2 e3 e4 e5 e6
   exact ⟨⟨a0,a1,a2,a3,a4,a5,a6⟩,⟨i64_of_wf w0,i64_of_wf w1,i64_of_wf w2,i64_of_wf w3,i64_of_wf w4,i64_of_wf w5,i64_of_wf w6⟩,rfl⟩
theorem list_of {α : Type} {P : Nat → α → Prop} (n : Nat) (h : ∀ i,i < n → ∃ x,P i x) : ∃ l : List α,l.length = n ∧ ∀ i x,l[i]? = some x → P i x:=by
 induction n with
 | zero => exact ⟨[],rfl,fun i x hx => by simp at hx⟩
 | succ n ih =>
  obtain ⟨l,hl,hp⟩:=ih fun i hi => h i (by omega)
  obtain ⟨x,hx⟩:=h n (by omega)
  refine ⟨l ++ [x],by simp [hl],fun i y hy => ?_⟩
  rw [List.getElem?_append] at hy
  split at hy
  ·exact hp i y hy
  ·rename_i hi
   have hi0 : i - l.length = 0:=by
    rcases Nat.eq_zero_or_pos (i - l.length) with e | e
    ·exact e
    ·rw [List.getElem?_eq_none (by simp; omega)] at hy; cases hy
   rw [hi0] at hy
   simp at hy
   subst hy
   have : i = n:=by omega
   subst this
   exact hx
theorem open_rows {α : Type} {cells : α → List Value} {s : Nat} {t te : TypeId} {ok : α → Prop} (hu : Tryz.prog.underlying t = some (.slice te)) (hcs : Tryz.prog.cellsOf te = s) (hlen : ∀ q,(cells q).length = s) (h0 : 0 < s)
  (hop : ∀ (m : Nat) (cs : List Value) (x : DataW H × List MemPlace),DataW.trod enc Tryz.prog W base spare held m te cs = some x → ∃ q,ok q ∧ cs = cells q)
  {fuel : Nat} {v : Value} {z : DataW H × List MemPlace} (hf : DataW.trod enc Tryz.prog W base spare held fuel t [v] = some z) : ∃ A n c,v = .slice A n c ∧ ∃ xs,RA cells s W W.heap.size A n c xs ∧ (A = none → c = 0) ∧ ∀ x ∈ xs,ok x:=by
 rcases open_slice hu hf with ⟨hcs,_⟩ | ⟨a,len,cap,m,n',D,Pl,hcs2,hb,hl,hm,hmm,hx,hi⟩
 ·obtain rfl : v = .slice none 0 0:=by simpa using hcs
  exact ⟨none,0,0,rfl,[],⟨Reads.none_,rfl,Nat.le_refl _,Nat.zero_le _,Nat.zero_le _⟩,fun _ => rfl,fun z hz => by cases hz⟩
 ·obtain rfl : v = .slice (some a) len cap:=by simpa using hcs2
  have hlm : len ≤ m:=by rw [hmm]; split <;> omega
  obtain ⟨l,hll,hp⟩:=list_of (P:=fun i (q : α) => ok q ∧ ∀ j,j < s → W.cell? (a.add (i * s + j)) = (cells q)[j]?) len (fun i hin => by
   obtain ⟨cs',h1,h2⟩:=hi i (by omega)
   rw [hcs] at h1
   obtain ⟨q,hok,rfl⟩:=hop _ _ _ h2
   obtain ⟨_,_,hat⟩:=World.cells?_some h1
   exact ⟨q,hok,fun j hj => by rw [← add_of_add]; exact hat j hj⟩)
  refine ⟨some a,len,cap,rfl,l,⟨⟨by rw [flat_len hlen,hll],fun hn => ?_⟩,hll,hl,hm,Nat.le_trans hl (by unfold maxLen at hm; exact hm)⟩,fun e => (by cases e),fun x hx => ?_⟩
  ·have hn : 0 < len:=hn
   have hz:=(hp 0 l[0] (List.getElem?_eq_getElem (by omega))).2 0 h0
   rw [List.getElem?_eq_getElem (by rw [hlen]; exact h0)] at hz
   obtain ⟨b,o,sp⟩:=a
   have hsp : sp = none:=by simpa [Addr.add] using World.cell?_spot hz
   subst hsp
   have hlt:=World.block_lt_of_cell? W _ hz
   refine ⟨b,o,rfl,by simpa [Addr.add] using hlt,fun j u hu => ?_⟩
   have hj : j < l.length * s:=by
    rcases Nat.lt_or_ge j (l.length * s) with e | e
    ·exact e
    ·rw [List.getElem?_eq_none (by rw [flat_len hlen]; exact e)] at hu; cases hu
   have hdm:=Nat.div_add_mod j s
   have hmd:=Nat.mod_lt j h0
   have hjd : j / s < l.length:=by rw [Nat.div_lt_iff_lt_mul h0]; exact hj
   have hcell:=(hp (j / s) l[j / s] (List.getElem?_eq_getElem hjd)).2 (j % s) hmd
   have hg:=flat_at hlen l (j / s) hjd (j % s) hmd
   rw [Nat.mul_comm (j / s) s,hdm] at hg hcell
   rw [Addr.add_lit] at hcell
   rw [hcell,← hg,hu]
  ·obtain ⟨i,hil,rfl⟩:=List.mem_iff_getElem.1 hx
   exact (hp i _ (List.getElem?_eq_getElem hil)).1
theorem open_Int {n : Nat} {cs : List Value} {x : DataW H × List MemPlace} (h : DataW.trod enc Tryz.prog W base spare held n 3 cs = some x) : ∃ q : Int,I64ok q ∧ cs = icell q:=by
 obtain ⟨a,rfl,_,wa⟩:=DataW.trod_int Tryz.underlying3 h
 exact ⟨a,i64_of_wf wa,rfl⟩
set_option maxRecDepth 100000 in
theorem open_Case {v : Value} {d : DataW H} {p : List MemPlace} {r : Reach} {b0 : Nat} (hv : Value.okWide Tryz.prog W r b0 25 v) (h : DataW.Trod enc Tryz.prog W base spare held 25 v d p) : ∃ c : Cas,v = casV c ∧ CasR W c:=by
 obtain ⟨cs,rfl,hsz⟩:=okWide_struct Tryz.underlying25 hv
 obtain ⟨fuel,hf⟩:=h
 obtain ⟨xs,m,_,_,hlen,hxl,hg⟩:=DataW.trod_struct Tryz.underlying25 hf
 obtain ⟨cs⟩:=cs
 simp only [Value.cells] at hlen hg
 have hc6 : Tryz.prog.cellsOf 25 = 6:=by kernel_rfl
 have hc7 : Tryz.prog.cellsOf 22 = 1:=by kernel_rfl
 have hc4 : Tryz.prog.cellsOf 23 = 1:=by kernel_rfl
 have hci : Tryz.prog.cellsOf 3 = 1:=by kernel_rfl
 rw [hc6] at hlen
 match cs,hlen with
 | [c0,c1,c2,c3,c4,c5],_ =>
  have g0 : DataW.trod enc Tryz.prog W base spare held m 22 (([c0,c1,c2,c3,c4,c5].drop 0).take (Tryz.prog.cellsOf 22)) = xs[0]?:=hg 0 _ rfl
  have g1 : DataW.trod enc Tryz.prog W base spare held m 23 (([c0,c1,c2,c3,c4,c5].drop 1).take (Tryz.prog.cellsOf 23)) = xs[1]?:=hg 1 _ rfl
  have g2 : DataW.trod enc Tryz.prog W base spare held m 23 (([c0,c1,c2,c3,c4,c5].drop 2).take (Tryz.prog.cellsOf 23)) = xs[2]?:=hg 2 _ rfl
  have g3 : DataW.trod enc Tryz.prog W base spare held m 23 (([c0,c1,c2,c3,c4,c5].drop 3).take (Tryz.prog.cellsOf 23)) = xs[3]?:=hg 3 _ rfl
  have g4 : DataW.trod enc Tryz.prog W base spare held m 3 (([c0,c1,c2,c3,c4,c5].drop 4).take (Tryz.prog.cellsOf 3)) = xs[4]?:=hg 4 _ rfl
  have g5 : DataW.trod enc Tryz.prog W base spare held m 3 (([c0,c1,c2,c3,c4,c5].drop 5).take (Tryz.prog.cellsOf 3)) = xs[5]?:=hg 5 _ rfl
  rw [hc7] at g0
  rw [hc4] at g1 g2 g3
  rw [hci] at g4 g5
  match xs,hxl with
  | [y0,y1,y2,y3,y4,y5],_ =>
   simp at g0 g1 g2 g3 g4 g5
   obtain ⟨xa,xn,xc,rfl,x,x1,_,x3⟩:=open_rows (cells:=a7Cells) (s:=7) Tryz.underlying22 (by kernel_rfl) (fun _ => rfl) (by decide) (fun _ _ _ h => open_A7 h) g0
   obtain ⟨ya,yn,yc,rfl,y,y1,_,y3⟩:=open_rows (cells:=a4Cells) (s:=4) Tryz.underlying23 (by kernel_rfl) (fun _ => rfl) (by decide) (fun _ _ _ h => open_A4 h) g1
   obtain ⟨za,zn,zc,rfl,z,z1,_,z3⟩:=open_rows (cells:=a4Cells) (s:=4) Tryz.underlying23 (by kernel_rfl) (fun _ => rfl) (by decide) (fun _ _ _ h => open_A4 h) g2
   obtain ⟨ua,un,uc,rfl,u,u1,_,u3⟩:=open_rows (cells:=a4Cells) (s:=4) Tryz.underlying23 (by kernel_rfl) (fun _ => rfl) (by decide) (fun _ _ _ h => open_A4 h) g3
   obtain ⟨fr,hfr,hf2⟩:=open_Int g4
   obtain ⟨lo,hlo,hl2⟩:=open_Int g5
   obtain rfl : c4 = .int .i64 fr:=by simpa [icell] using hf2
   obtain rfl : c5 = .int .i64 lo:=by simpa [icell] using hl2
   exact ⟨⟨x,y,z,u,fr,lo,xa,xn,xc,ya,yn,yc,za,zn,zc,ua,un,uc⟩,rfl,⟨x1,y1,z1,u1,x3,y3,z3,u3,hfr,hlo⟩⟩
end
end Go.Proofs.YtjidhhfabfnhnaaGreat
namespace Go.Proofs.YtjidhhfabfnhnaaGreat
theorem satsP_len (x : List A7) (y : List A4) : (satsP x y).length ≤ 3:=by rw [satsP,satsK_len]; omega
theorem satsP_get (x : List A7) (y : List A4) (i : Nat) (h : i < (satsP x y).length) : satOK (satsP x y)[i] = true ∧ (satsP x y)[i].id = 2 * (i : Int) + 1:=by
 have h3:=satsP_len x y
 simp only [satsP,satsK,List.getElem_map,List.getElem_range]
 exact ⟨satA_ok _ _ _,satA_id _ _ _ (by omega)⟩
theorem listOK_of {α : Type} {ok : α → Bool} {id : α → Int} : ∀ (l : List α) (p : Option α),(∀ (i : Nat) (h : i < l.length),ok l[i] = true) → (∀ (i : Nat) (h : i + 1 < l.length),id l[i] < id l[i + 1]) → (∀ y,p = some y → ∀ h : 0 < l.length,id y < id l[0]) → listOK ok id p l = true
 | [],_,_,_,_ => rfl
 | x :: l,p,h1,h2,h3 => by
  have hx : ok x = true:=h1 0 (by simp)
  have hl : listOK ok id (some x) l = true:=listOK_of l (some x) (fun i hi => h1 (i + 1) (by simpa using hi)) (fun i hi => h2 (i + 1) (by simpa using hi)) (fun y hy h => by cases hy; exact h2 0 (by simpa using h))
  cases p with
  | none => simp only [listOK,hx,hl,Bool.and_true]
  | some y =>
   have h0 : id y < id x:=h3 y rfl (by simp)
   simp only [listOK,hx,hl,decide_eq_true h0,Bool.and_true]
theorem satsP_OK (x : List A7) (y : List A4) : satsOK (satsP x y) = true:=by
 have h3:=satsP_len x y
 rw [satsOK,decide_eq_true (by omega),Bool.true_and]
 exact listOK_of _ _ (fun i h => (satsP_get x y i h).1) (fun i h => by rw [(satsP_get x y i (by omega)).2,(satsP_get x y (i + 1) h).2]; omega) (fun _ h => by cases h)
end Go.Proofs.YtjidhhfabfnhnaaGreat
namespace Go.Proofs.YtjidhhfabfnhnaaGreat
theorem getD_in {α : Type} (l : List α) (i : Nat) (h : i < l.length) (d : α) : l.getD i d = l[i]:=by simp [h]
theorem updO_ok {o : Orb} (h : orbOK o = true) (c : Int) : orbOK (updO o c) = true:=by
 have h7:=pickI_bd c 7 (by omega)
 have h4:=pickI_bd (c.tdiv 7) 4 (by omega)
 have h2:=pickI_bd (c.tdiv 28) 2 (by omega)
 have e : orbOK (updO o c) = (inB o.period 20 2000 && (o.period % 2 == 0) && inB ((o.phase + pickI c 7) % o.period) 0 (o.period - 1) && inB o.low 0 23999 && inB o.high 0 23999 && decide (o.low < o.high) && inB ((o.node + 1000 * pickI (c.tdiv 7) 4) % 48000) 0 47999 && inB o.turn (-2000) 2000 && inB (if o.slack + pickI (c.tdiv 28) 2 < 10 then o.slack + pickI (c.tdiv 28) 2 else 10) 0 10):=rfl
 rw [e]
 unfold orbOK at h
 simp only [Bool.and_eq_true,inB_iff,decide_eq_true_eq] at h ⊢
 obtain ⟨⟨⟨⟨⟨⟨⟨⟨a1,a2⟩,a3⟩,a4⟩,a5⟩,a6⟩,a7⟩,a8⟩,a9⟩:=h
 have e1:=Int.emod_nonneg (o.phase + pickI c 7) (b:=o.period) (by omega)
 have e2:=Int.emod_lt_of_pos (o.phase + pickI c 7) (b:=o.period) (by omega)
 refine ⟨⟨⟨⟨⟨⟨⟨⟨a1,a2⟩,by omega⟩,a4⟩,a5⟩,a6⟩,by omega⟩,a8⟩,?_⟩
 split <;> omega
def UOK (ids : List Int) : Int → List Upd → Prop
 | _,[] => True
 | p,u :: r => u.sat ∈ ids ∧ updOK u = true ∧ p ≤ u.kn ∧ UOK ids u.kn r
theorem uok_updsR {ids : List Int} : ∀ {l : List Upd} {p : Int} {q : Option Int},UOK ids p l → (∀ k,q = some k → k ≤ p) → updsR ids q l = true
 | [],_,_,_,_ => rfl
 | u :: r,p,q,⟨h1,h2,h3,h4⟩,hq => by
  unfold updsR
  rw [decide_eq_true h1,h2,uok_updsR h4 (fun k e => by injection e with e; omega)]
  cases q with
  | none => rfl
  | some k => simp; have:=hq k rfl; omega
theorem uok_mono {ids : List Int} : ∀ {l : List Upd} {p q : Int},UOK ids p l → q ≤ p → UOK ids q l
 | [],_,_,_,_ => trivial
 | _ :: _,_,_,⟨h1,h2,h3,h4⟩,hq => ⟨h1,h2,by omega,h4⟩
theorem uok_filter {ids : List Int} (id : Int) : ∀ {l : List Upd} {p : Int},UOK ids p l → UOK [id] p (ownU id l)
 | [],_,_ => trivial
 | u :: r,p,⟨h1,h2,h3,h4⟩ => by
  unfold ownU
  rw [List.filter_cons]
  split
  ·rename_i hu
   exact ⟨by simp at hu ⊢; exact hu,h2,h3,uok_filter id h4⟩
  ·exact uok_mono (uok_filter id h4) h3
theorem uok_take {ids : List Int} : ∀ {l : List Upd} {p : Int} (k : Nat),UOK ids p l → UOK ids p (l.take k)
 | [],_,k,_ => by simp [UOK]
 | _ :: _,_,0,_ => trivial
 | _ :: _,_,k + 1,⟨h1,h2,h3,h4⟩ => ⟨h1,h2,h3,uok_take k h4⟩
theorem uok_snoc {ids : List Int} {u : Upd} : ∀ {l : List Upd} {p : Int},UOK ids p l → u.sat ∈ ids → updOK u = true → p ≤ u.kn → (∀ v ∈ l,v.kn ≤ u.kn) → UOK ids p (l ++ [u])
 | [],_,_,h1,h2,h3,_ => ⟨h1,h2,h3,trivial⟩
 | v :: _,_,⟨g1,g2,g3,g4⟩,h1,h2,_,h4 => ⟨g1,g2,g3,uok_snoc g4 h1 h2 (h4 v (List.mem_cons_self ..)) (fun x hx => h4 x (List.mem_cons_of_mem _ hx))⟩
theorem knA_mono (fr : Int) (x : List A4) (h : 0 ≤ fr ∧ fr ≤ 1000000) (k : Nat) : knA fr x k ≤ knA fr x (k + 1):=by
 have:=knA_bd fr x h k
 rw [knA]
 have:=pickI_bd (x.getD k z4).a2 60 (by omega)
 split <;> omega
theorem knA_le (fr : Int) (x : List A4) (h : 0 ≤ fr ∧ fr ≤ 1000000) (i : Nat) : ∀ k,i ≤ k → knA fr x i ≤ knA fr x k:=by
 intro k hk
 induction k with
 | zero => rw [Nat.le_zero.1 hk]; exact Int.le_refl _
 | succ k ih =>
  by_cases e : i = k + 1
  ·rw [e]; exact Int.le_refl _
  ·exact Int.le_trans (ih (by omega)) (knA_mono fr x h k)
theorem updsK_ok (sats : List St) (fr : Int) (x : List A4) (h : 0 ≤ fr ∧ fr ≤ 1000000) (hs : ∀ s ∈ sats,orbOK s.orbit = true) (h0 : 0 < sats.length) (k : Nat) : UOK (sats.map (·.id)) fr (updsK sats fr x k):=by
 induction k with
 | zero => exact trivial
 | succ k ih =>
  rw [updsK_succ]
  have hp:=pickI_bd (x.getD k z4).a0 sats.length (by omega)
  have hi : (pickI (x.getD k z4).a0 sats.length).toNat < sats.length:=by omega
  have hm : sats.getD (pickI (x.getD k z4).a0 sats.length).toNat zS ∈ sats:=by
   rw [getD_in _ _ hi]; exact List.getElem_mem hi
  have h1:=pickI_bd (x.getD k z4).a1 300 (by omega)
  have h2:=knA_bd fr x h (k + 1)
  refine uok_snoc ih (List.mem_map.2 ⟨_,hm,rfl⟩) ?_ h2.1 (fun v hv => ?_)
  ·have ho:=updO_ok (hs _ hm) (x.getD k z4).a3
   have e : updOK (updA sats fr x k) = (inB (if fr + pickI (x.getD k z4).a1 300 < 1000000 then fr + pickI (x.getD k z4).a1 300 else 1000000) 0 1000000 && inB (knA fr x (k + 1)) 0 1000000 && orbOK (updO (sats.getD (pickI (x.getD k z4).a0 sats.length).toNat zS).orbit (x.getD k z4).a3)):=rfl
   rw [e,ho]
   simp only [Bool.and_true,Bool.and_eq_true,inB_iff]
   refine ⟨?_,by omega,h2.2⟩
   split <;> omega
  ·obtain ⟨i,hi,rfl⟩:=List.mem_map.1 hv
   have:=List.mem_range.1 hi
   exact knA_le fr x h (i + 1) (k + 1) (by omega)
theorem updsP_ok (sats : List St) (fr : Int) (x : List A4) (h : 0 ≤ fr ∧ fr ≤ 1000000) (hs : ∀ s ∈ sats,orbOK s.orbit = true) : UOK (sats.map (·.id)) fr (updsP sats fr x):=by
 unfold updsP
 split
 ·exact trivial
 ·exact updsK_ok sats fr x h hs (by omega) _
theorem updsP_le (sats : List St) (fr : Int) (x : List A4) : (updsP sats fr x).length ≤ 6:=by
 unfold updsP
 split
 ·simp
 ·rw [updsK_len]; omega
theorem validE_of {sats : List St} {l : List Upd} {p : Int} (h : UOK (sats.map (·.id)) p l) (hl : l.length ≤ 24) (hs : satsOK sats = true) : validE sats l = true:=by
 unfold validE
 rw [uok_updsR (q:=none) h (fun _ e => by cases e),decide_eq_true hl,hs]
 rfl
theorem validS_of {ids : List Int} {x : St} {l : List Upd} {p : Int} (h : UOK ids p l) (hl : l.length ≤ 24) (hx : satOK x = true) : validS x l = true :=
 validE_of (uok_filter x.id h) (Nat.le_trans (List.length_filter_le _ _) hl) (by simp [satsOK,listOK,hx])
def Chn (f : Int → Orb) : Int → List Str → Int → Prop
 | a,[],b => a = b
 | a,s :: r,b => s.sp.fr = a ∧ a < s.sp.tt ∧ s.sp.tt ≤ b ∧ (∀ u,a ≤ u → u < s.sp.tt → f u = s.orb) ∧ (∀ x,r.head? = some x → s.orb ≠ x.orb) ∧ Chn f s.sp.tt r b
theorem str_chn (f : Int → Orb) (n : Nat) : ∀ t : Int,Chn f t (strP f t n) (t + n):=by
 induction n with
 | zero => intro t; show t = t + ((0 : Nat) : Int); omega
 | succ n ih =>
  intro t
  have h:=ih (t + 1)
  have e1 : t + ((n + 1 : Nat) : Int) = t + 1 + n:=by omega
  rw [e1]
  unfold strP
  generalize strP f (t + 1) n = l at h
  cases l with
  | nil =>
   have h : t + 1 = t + 1 + (n : Int):=h
   refine ⟨rfl,by show t < t + 1; omega,by show t + 1 ≤ _; omega,fun u h1 h2 => ?_,(fun x hx => by cases hx),h⟩
   have h2 : u < t + 1:=h2
   rw [show u = t by omega]
  | cons s r =>
   obtain ⟨h1,h2,h3,h4,h5,h6⟩:=h
   dsimp only
   split
   ·rename_i he
    refine ⟨rfl,by show t < s.sp.tt; omega,h3,fun u h7 h8 => ?_,fun x hx => ?_,h6⟩
    ·by_cases e : u = t
     ·rw [e]
     ·have h9:=h4 u (by omega) h8
      rw [h9,he]
    ·have h9:=h5 x hx
     dsimp only
     rw [← he]; exact h9
   ·rename_i he
    refine ⟨rfl,by show t < t + 1; omega,by show t + 1 ≤ _; omega,fun u h7 h8 => ?_,fun x hx => ?_,⟨h1,h2,h3,h4,h5,h6⟩⟩
    ·have h8 : u < t + 1:=h8
     rw [show u = t by omega]
    ·cases hx
     exact fun e => he e.symm
theorem chn_ne {f : Int → Orb} : ∀ {l : List Str} {a b : Int} (_ : Chn f a l b) (k : Nat) (h : k + 1 < l.length),l[k].orb ≠ l[k + 1].orb
 | s :: r,a,b,⟨_,_,_,_,h5,_⟩,0,h => by
  cases r with
  | nil => simp at h
  | cons y r => exact h5 y rfl
 | s :: r,a,b,⟨_,_,_,_,_,h6⟩,k + 1,h => chn_ne (l:=r) h6 k (by simpa using h)
end Go.Proofs.YtjidhhfabfnhnaaGreat
namespace Go.Proofs.YtjidhhfabfnhnaaGreat
theorem sats_okP (c : Cas) : satsOK (satsC c) = true:=satsP_OK _ _
theorem upds_okP (c : Cas) : UOK ((satsC c).map (·.id)) (frC c) (updsC c):=by
 have h:=frC_bd c
 exact updsP_ok _ _ _ ⟨h.1,by omega⟩ (fun s hs => satOK_orb (satsC_ok c s hs))
theorem upds_lenP (c : Cas) : (updsC c).length ≤ 6:=updsP_le _ _ _
theorem validS_C (c : Cas) (s : St) (hs : s ∈ satsC c) : validS s (updsC c) = true:=validS_of (upds_okP c) (by have:=upds_lenP c; omega) (satsC_ok c s hs)
theorem validE_C (c : Cas) : validE (satsC c) (updsC c) = true:=validE_of (upds_okP c) (by have:=upds_lenP c; omega) (sats_okP c)
end Go.Proofs.YtjidhhfabfnhnaaGreat
namespace Go.Proofs.YtjidhhfabfnhnaaGreat
open Go.RowKit
theorem best_app (sat kn t : Int) : ∀ (l1 l2 : List Upd) (b : Option Upd),bestU sat kn t (l1 ++ l2) b = bestU sat kn t l2 (bestU sat kn t l1 b)
 | [],_,_ => rfl
 | u :: r,l2,b => by
  show bestU sat kn t (r ++ l2) (nxU sat kn t b u) = bestU sat kn t l2 (bestU sat kn t r (nxU sat kn t b u))
  exact best_app sat kn t r l2 _
theorem best_late {sat kn t : Int} : ∀ {l : List Upd} (b : Option Upd),(∀ u ∈ l,kn < u.kn) → bestU sat kn t l b = b
 | [],_,_ => rfl
 | u :: r,b,h => by
  unfold bestU
  have h0:=h u (List.mem_cons_self ..)
  have hc : chU sat kn t u = false:=by
   have hd : decide (u.kn ≤ kn) = false:=decide_eq_false (by omega)
   unfold chU
   rw [hd,Bool.and_false,Bool.false_and]
  have hn : nxU sat kn t b u = b:=by unfold nxU; rw [hc]; rfl
  rw [hn]
  exact best_late b (fun v hv => h v (List.mem_cons_of_mem _ hv))
theorem orbE_take {l : List Upd} {n : Nat} {kn : Int} (h : ∀ u ∈ l.drop n,kn < u.kn) (x : St) : orbE x (l.take n) kn = orbE x l kn:=by
 funext t
 unfold orbE
 have e : bestU x.id kn t l none = bestU x.id kn t (l.drop n) (bestU x.id kn t (l.take n) none):=by
  rw [← best_app,List.take_append_drop]
 rw [e,best_late _ h]
theorem allE_congr {stns : List Stn} {l l' : List Upd} {sp : Spl} {kn kn' : Int} : ∀ {sats : List St},(∀ x ∈ sats,strE x l sp kn = strE x l' sp kn') → allE stns l sp kn sats = allE stns l' sp kn' sats
 | [],_ => rfl
 | s :: r,h => by
  unfold allE
  rw [h s (List.mem_cons_self ..),allE_congr (sats:=r) (fun x hx => h x (List.mem_cons_of_mem _ hx))]
theorem passesE_take {sats : List St} {stns : List Stn} {l : List Upd} {sp : Spl} {n : Nat} {kn : Int} (h : ∀ u ∈ l.drop n,kn < u.kn) (h1 : validE sats l = true) (h2 : validE sats (l.take n) = true) :
  passesE sats stns (l.take n) sp kn = passesE sats stns l sp kn:=by
 unfold passesE
 rw [h1,h2,allE_congr (l':=l) (kn':=kn) (fun x _ => by unfold strE; rw [orbE_take h])]
theorem uok_ge {ids : List Int} : ∀ {l : List Upd} {p : Int},UOK ids p l → ∀ u ∈ l,p ≤ u.kn
 | [],_,_,_,hu => by cases hu
 | v :: r,p,⟨_,_,h3,h4⟩,u,hu => by
  rcases List.mem_cons.1 hu with rfl | hu
  ·exact h3
  ·have:=uok_ge h4 u hu; omega
theorem uok_at {ids : List Int} : ∀ {l : List Upd} {p : Int} (_ : UOK ids p l) (n : Nat) (hn : n < l.length),∀ u ∈ l.drop n,l[n].kn ≤ u.kn
 | _ :: _,_,⟨_,_,_,h4⟩,0,_,u,hu => by
  rcases List.mem_cons.1 hu with rfl | hu
  ·exact Int.le_refl _
  ·exact uok_ge h4 u hu
 | _ :: r,_,⟨_,_,_,h4⟩,n + 1,hn,u,hu => uok_at (l:=r) h4 n (by simpa using hn) u (by simpa using hu)
theorem uok_kn {ids : List Int} : ∀ {l : List Upd} {p : Int},UOK ids p l → ∀ u ∈ l,updOK u = true
 | [],_,_,_,hu => by cases hu
 | v :: r,p,⟨_,h2,_,h4⟩,u,hu => by
  rcases List.mem_cons.1 hu with rfl | hu
  ·exact h2
  ·exact uok_kn h4 u hu
def epE (R : Option (List Pas)) : Int:=match R with
 | none => 360
 | some _ => 0
theorem ep_form {R : Option (List Pas)} {w : World} {e : Ending} {w' : World} (h : EPRet R w e w') (hR : ∀ o,R = some o → o.length ≤ 64) :
  ∃ A n c,e = .returned (.tuple #[.slice A n c,.int .i64 (epE R)]) ∧ RA pasCells 6 w' w'.heap.size A n c (R.getD []) ∧ n ≤ 64 ∧ Ext w w':=by
 cases R with
 | none => exact ⟨none,0,0,h.1,RA.of_own (base:=0) (e:=0) (World.ownsRow_nil _ _ _ _) rfl (by omega),by omega,h.2⟩
 | some o =>
  obtain ⟨⟨v,rfl,hown⟩,hx⟩:=h
  obtain ⟨A,c,rfl,_,_⟩:=own_slice hown
  have:=hR o rfl
  exact ⟨A,_,c,rfl,RA.of_own hown rfl (by omega),this,hx⟩
end Go.Proofs.YtjidhhfabfnhnaaGreat

