/- Two sorted parts of a row merged in place (printed by sort_merge.py). -/
import Derived.Test.YtjidhhfabfnhnaaGreatK16
namespace Go.Proofs.YtjidhhfabfnhnaaGreat
open Go.RowKit
set_option maxHeartbeats 8000000 in
set_option maxRecDepth 100000 in
theorem sym_l (K : Nat) (caps : Array Value) (cv : Pas → Pas → Int) (eg : ∀ args w,(callFunc K args).run Tryz.prog w = .ok (.enter K args) w) (hcmp : CmpC K caps cv) (hsw : SW (ltOf cv)) (base g n c : Nat) (hn : n ≤ 1000000) (P Bl S : List Pas) (x : Pas) (a m b : Nat) (w : World) (ha : a = P.length) (hm : m = a + 1) (hb : b = m + Bl.length) (hs : Srtd (ltOf cv) Bl) (hr : RowS pasCells 6 base 75 g n c w (P ++ x :: (Bl ++ S))) :
  Calls Tryz.prog 148 #[.slice (some ⟨g,0,none⟩) n c,.int .i64 (a : Int),.int .i64 (m : Int),.int .i64 (b : Int),.func (.func K) #[] caps] w
   fun e w' => e = .returned (.tuple #[]) ∧ RowS pasCells 6 base 75 g n c w' (P ++ mergeP (ltOf cv) [x] Bl ++ S) ∧ w.grownBy w' (some g):=by
 have hc:=hr.le
 have hln:=hr.1
 have hbn : b ≤ n:=by simp at hln; omega
 obtain ⟨LL,hL⟩ : ∃ l,l = P ++ x :: (Bl ++ S):=⟨_,rfl⟩
 rw [← hL] at hr
 have HRW:=Lib.hid hr
 have HCMP:=Lib.hid hcmp
 have HSW:=Lib.hid hsw
 have HS:=Lib.hid hs
 have HA:=Lib.hid ha
 have HL0:=Lib.hid hL
 have h0 : Bl = [] ++ Bl ++ [] ∧ m + ([] : List Pas).length = m ∧ m + Bl.length = b:=⟨by simp,rfl,hb.symm⟩
 have H0:=Lib.hid h0
 have HE : Hid (∀ y ∈ ([] : List Pas),ltOf cv y x = true):=Lib.hid (fun _ h => by cases h)
 have HF : Hid (∀ y ∈ ([] : List Pas),ltOf cv y x = false):=Lib.hid (fun _ h => by cases h)
 have hmb : m ≤ b:=by omega
 have hw0 : IntKind.i64.wrap ((m : Int) - (a : Int)) = (m : Int) - (a : Int):=IntWalk.i64_in _ (by omega)
 have he0 : ((m : Int) - (a : Int) == 1) = true:=by simp; omega
 have HM:=Lib.hid hm
 clear hr hcmp hsw hs hL ha hln hb h0 hm
 go_enter Tryz.func148,Tryz.ntmps148
 go_wp2
 clear hw0 he0
 go_loopw [10,11] (fun u v wr => ∃ (i j : Nat) (R1 Q R2 : List Pas),m ≤ i ∧ i ≤ j ∧ j ≤ b ∧ u = .int .i64 i ∧ v = .int .i64 j ∧ Hid (Bl = R1 ++ Q ++ R2 ∧ m + R1.length = i ∧ i + Q.length = j) ∧ Hid (∀ y ∈ R1,ltOf cv y x = true) ∧ Hid (∀ y ∈ R2,ltOf cv y x = false) ∧ Ext w wr) (fun u v _ => (intOf v).toNat - (intOf u).toNat)
 case atStart => exact ⟨m,b,[],Bl,[],Nat.le_refl _,hmb,Nat.le_refl _,rfl,rfl,H0,HE,HF,Ext.refl _⟩
 case round =>
  clear H0 HE HF
  obtain ⟨i,j,R1,Q,R2,him,hij,hjb,rfl,rfl,HQ,HE,HF,hxw⟩:=hrel
  by_cases hlt : i < j
  ·obtain ⟨h,hh⟩ : ∃ h,h = (i + j) / 2:=⟨_,rfl⟩
   have em : ((i : Int) + (j : Int)) / 2 = ((h : Nat) : Int):=by omega
   have hh1 : i ≤ h:=by omega
   have hh2 : h < j:=by omega
   clear hh
   go_wp2_with fail
   clear em
   obtain ⟨Q1,z,Q2,hQ,hQ1⟩:=list_at Q (h - i) (by have:=HQ.out; omega)
   have hq:=HQ.out
   rw [hQ] at hq
   have HQ2:=Lib.hid hq
   have HL : Hid (LL = P ++ x :: ((R1 ++ (Q1 ++ z :: Q2) ++ R2) ++ S)):=Lib.hid (by rw [HL0.out,← hq.1])
   have HQ1:=Lib.hid hQ1
   have eqa : LL = (P ++ x :: (R1 ++ Q1)) ++ z :: (Q2 ++ R2 ++ S):=by simp [HL.out]
   obtain ⟨qa,fqa⟩:=list_mid (P ++ x :: (R1 ++ Q1)) (Q2 ++ R2 ++ S) z h (by have h1:=HQ2.out; have h2:=HA.out; have h3:=HM.out; simp; omega)
   have hX_ : wr.rangeAt g (h * 6) (pasCells z):=by have h:=(HRW.out.ext hxw).range pas_len (k:=h) (by rw [eqa]; exact qa); simp only [eqa] at h; rw [fqa] at h; exact h
   obtain ⟨X,hhX⟩ : ∃ X,(pasCells z).toArray = X:=⟨_,rfl⟩
   have HX:=Lib.hid hhX
   have eqb : LL = (P) ++ x :: ((R1 ++ (Q1 ++ z :: Q2) ++ R2) ++ S):=by simp [HL.out]
   obtain ⟨qb,fqb⟩:=list_mid (P) ((R1 ++ (Q1 ++ z :: Q2) ++ R2) ++ S) x a (HA.out)
   have hY_ : wr.rangeAt g (a * 6) (pasCells x):=by have h:=(HRW.out.ext hxw).range pas_len (k:=a) (by rw [eqb]; exact qb); simp only [eqb] at h; rw [fqb] at h; exact h
   obtain ⟨Y,hhY⟩ : ∃ X,(pasCells x).toArray = X:=⟨_,rfl⟩
   have HY:=Lib.hid hhY
   have hcc:=HCMP.out z x
   rw [hhX,hhY] at hcc
   obtain ⟨v_,hv⟩ : ∃ v,v = cv z x:=⟨_,rfl⟩
   rw [← hv] at hcc
   have HC:=Lib.hid hcc
   have hlt_ : ltOf cv z x = decide (v_ < 0):=by rw [hv]; rfl
   have HLT:=Lib.hid hlt_
   clear hcc hv hlt_ eqa eqb qa qb fqa fqb hhX hhY
   clear hQ hQ1 hq HQ
   have hhn : h < n:=by omega
   have han : a < n:=by have:=HM.out; omega
   refine wp_region_obl 11 (fun ix vals v w1 => match ix with | 0 => v = .func (.func K) #[] caps | 1 => v = .slice (some ⟨g,0,none⟩) n c | 2 => v = .int .i64 (h : Int) | 3 => v = .pointer (some ⟨g,(h) * 6,none⟩) | 4 => v = .agg X | 5 => v = .slice (some ⟨g,0,none⟩) n c | 6 => v = .int .i64 (a : Int) | 7 => v = .pointer (some ⟨g,(a) * 6,none⟩) | 8 => v = .agg Y | 9 => v = .int .i64 v_ | _ => v = .bool (decide (v_ < 0))) (by kernel_rfl) (by kernel_rfl) ?_ ?_ ?_ ?_
   ·intro ix vals v w1 w2 hi hr hx; exact hr
   ·intro ix vals vals_ v w1 hi hv hr
    exact hr
   ·refine obls_ofT [some 40,some 41,some 42,some 43,some 44,some 45,some 46,some 47,some 48,some 49,some 50] [(0,.slice (some ⟨g,0,none⟩) n c),(1,.int .i64 (a : Int)),(4,.func (.func K) #[] caps),(12,.int .i64 (h : Int))] 220 (by kernel_rfl) (by kernel_rfl) ⟨by kernel_rfl,by kernel_rfl,by kernel_rfl,by kernel_rfl,trivial⟩ ?_
    refine ⟨?_,?_,?_,?_,?_,?_,?_,?_,?_,?_,?_,trivial⟩
    ·intro vals w1 hx hd
     refine .r [(4,.func (.func K) #[] caps)] (Op.move (Operand.const (.func (.func K) #[] caps))) 120 40 ⟨.out (by kernel_rfl) (by kernel_rfl),trivial⟩ ?_
     clear hd
     go_wp2
     exact q_
    ·intro vals w1 hx hd
     refine .r [(0,.slice (some ⟨g,0,none⟩) n c)] (Op.move (Operand.const (.slice (some ⟨g,0,none⟩) n c))) 36 41 ⟨.out (by kernel_rfl) (by kernel_rfl),trivial⟩ ?_
     clear hd
     go_wp2
     exact q_
    ·intro vals w1 hx hd
     refine .r [(12,.int .i64 (h : Int))] (Op.move (Operand.const (.int .i64 (h : Int)))) 3 42 ⟨.out (by kernel_rfl) (by kernel_rfl),trivial⟩ ?_
     clear hd
     go_wp2
     exact q_
    ·intro vals w1 hx hd
     refine .r [(41,.slice (some ⟨g,0,none⟩) n c),(42,.int .i64 (h : Int))] (Op.indexAddr 36 (Operand.const (.slice (some ⟨g,0,none⟩) n c)) (Operand.const (.int .i64 (h : Int)))) 0 43 ⟨.inn 1 (by kernel_rfl) (hd 1 (by decide)),.inn 2 (by kernel_rfl) (hd 2 (by decide)),trivial⟩ ?_
     clear hd
     go_wp2
     exact q_
    ·intro vals w1 hx hd
     refine .r [(43,.pointer (some ⟨g,(h) * 6,none⟩))] (Op.load 75 (Operand.const (.pointer (some ⟨g,(h) * 6,none⟩)))) 75 44 ⟨.inn 3 (by kernel_rfl) (hd 3 (by decide)),trivial⟩ ?_
     clear hd
     refine wpList_load_st rfl _ _ rfl g ((h) * 6) rfl X (pasCells z) HX.out _ (RA.range2 hX_ hx.undrew) Tryz.underlying75 rfl pas_size ?_
     go_wp2
     exact q_
    ·intro vals w1 hx hd
     refine .r [(0,.slice (some ⟨g,0,none⟩) n c)] (Op.move (Operand.const (.slice (some ⟨g,0,none⟩) n c))) 36 45 ⟨.out (by kernel_rfl) (by kernel_rfl),trivial⟩ ?_
     clear hd
     go_wp2
     exact q_
    ·intro vals w1 hx hd
     refine .r [(1,.int .i64 (a : Int))] (Op.move (Operand.const (.int .i64 (a : Int)))) 3 46 ⟨.out (by kernel_rfl) (by kernel_rfl),trivial⟩ ?_
     clear hd
     go_wp2
     exact q_
    ·intro vals w1 hx hd
     refine .r [(45,.slice (some ⟨g,0,none⟩) n c),(46,.int .i64 (a : Int))] (Op.indexAddr 36 (Operand.const (.slice (some ⟨g,0,none⟩) n c)) (Operand.const (.int .i64 (a : Int)))) 0 47 ⟨.inn 5 (by kernel_rfl) (hd 5 (by decide)),.inn 6 (by kernel_rfl) (hd 6 (by decide)),trivial⟩ ?_
     clear hd
     go_wp2
     exact q_
    ·intro vals w1 hx hd
     refine .r [(47,.pointer (some ⟨g,(a) * 6,none⟩))] (Op.load 75 (Operand.const (.pointer (some ⟨g,(a) * 6,none⟩)))) 75 48 ⟨.inn 7 (by kernel_rfl) (hd 7 (by decide)),trivial⟩ ?_
     clear hd
     refine wpList_load_st rfl _ _ rfl g ((a) * 6) rfl Y (pasCells x) HY.out _ (RA.range2 hY_ hx.undrew) Tryz.underlying75 rfl pas_size ?_
     go_wp2
     exact q_
    ·intro vals w1 hx hd
     refine .r [(40,.func (.func K) #[] caps),(44,.agg X),(48,.agg Y)] (Op.call { callee:=Callee.value (Operand.const (.func (.func K) #[] caps)),args:=#[(Operand.const (.agg X)),(Operand.const (.agg Y))],argTypes:=#[75,75] }) 3 49 ⟨.inn 0 (by kernel_rfl) (hd 0 (by decide)),.inn 4 (by kernel_rfl) (hd 4 (by decide)),.inn 8 (by kernel_rfl) (hd 8 (by decide)),trivial⟩ ?_
     clear hd
     go_wp2_with fail
     refine (HC.out _).mono ?_
     rintro e w2 ⟨rfl,hb2⟩
     go_wp2
     exact ⟨rfl,hb2,rfl⟩
    ·intro vals w1 hx hd
     refine .r [(49,.int .i64 v_)] (Op.binOp BinOp.lss 3 (Operand.const (.int .i64 v_)) (Operand.const (Value.int IntKind.i64 0)) 3) 4 50 ⟨.inn 9 (by kernel_rfl) (hd 9 (by decide)),trivial⟩ ?_
     clear hd
     go_wp2
     exact q_
   intro vals w5 hx5 hf
   have e10 : vals 10 = .bool (decide (v_ < 0)):=hf 10 (by omega)
   clear hf hX_ hY_
   have hxw:=Ext.trans hxw hx5.undrew
   clear hx5
   refine tail0 (by kernel_rfl) ?_
   simp only [Lf,dstAt,Act.put,FR_]
   rw [e10]
   clear e10
   have hw1 : IntKind.i64.wrap ((h : Int) + 1) = (h : Int) + 1:=IntWalk.i64_in _ (by omega)
   by_cases hv0 : v_ < 0
   ·have hlt2 : ltOf cv z x = true:=by rw [HLT.out]; simpa using hv0
    have hN : Bl = (R1 ++ (Q1 ++ [z])) ++ Q2 ++ R2 ∧ m + (R1 ++ (Q1 ++ [z])).length = h + 1 ∧ h + 1 + Q2.length = j:=by
     have h1:=HQ2.out
     have h2:=HQ1.out
     refine ⟨by rw [h1.1]; simp,?_,?_⟩ <;> simp at h1 ⊢ <;> omega
    have HN:=Lib.hid hN
    have HE2 : Hid (∀ y ∈ R1 ++ (Q1 ++ [z]),ltOf cv y x = true):=Lib.hid (s1_lt HSW.out (by rw [← HQ2.out.1]; exact HS.out) hlt2 HE.out)
    clear hN hlt2 HE HQ2 HQ1 HL
    go_wp2
    go_roundw
    case rel => exact ⟨h + 1,j,_,_,_,by omega,by omega,hjb,by go_num,rfl,HN,HE2,HF,hxw⟩
    case measure => simp [intOf]; omega
   ·have hlt2 : ltOf cv z x = false:=by rw [HLT.out]; simpa using hv0
    have hN : Bl = R1 ++ Q1 ++ ((z :: Q2) ++ R2) ∧ m + R1.length = i ∧ i + Q1.length = h:=by
     have h1:=HQ2.out
     have h2:=HQ1.out
     refine ⟨by rw [h1.1]; simp,?_,?_⟩ <;> simp at h1 ⊢ <;> omega
    have HN:=Lib.hid hN
    have HF2 : Hid (∀ y ∈ (z :: Q2) ++ R2,ltOf cv y x = false):=Lib.hid (s1_ge HSW.out (by rw [← HQ2.out.1]; exact HS.out) hlt2 HF.out)
    clear hN hlt2 HF HQ2 HQ1 HL
    go_wp2
    go_roundw
    case rel => exact ⟨i,h,_,_,_,him,hh1,by omega,rfl,rfl,HN,HE,HF2,hxw⟩
    case measure => simp [intOf]; omega
  ·have hij2 : i = j:=by omega
   have hq0 : Q = []:=List.eq_nil_of_length_eq_zero (by have:=HQ.out; omega)
   have hR : Bl = R1 ++ R2 ∧ m + R1.length = i:=by have h:=HQ.out; rw [hq0] at h; exact ⟨by rw [h.1]; simp,h.2.1⟩
   have HBR:=Lib.hid hR
   have HROW0 : Hid (RowS pasCells 6 base 75 g n c wr (P ++ [] ++ x :: (R1 ++ R2 ++ S))):=Lib.hid (by have h:=HRW.out.ext hxw; rw [HL0.out,hR.1] at h; simpa using h)
   have HG0 : Hid (w.grownBy wr (some g)):=Lib.hid (grown_ext hxw)
   have HK0 : Hid (R1 = [] ++ R1 ∧ a + ([] : List Pas).length = a):=Lib.hid ⟨rfl,rfl⟩
   have hi1 : a ≤ i - 1:=by have:=HM.out; omega
   have HRES : Hid (mergeP (ltOf cv) [x] Bl = R1 ++ x :: R2):=Lib.hid (by rw [hR.1]; exact merge_one_l x R1 R2 HE.out HF.out)
   clear hij2 hq0 hR HQ HE HF
   have hw2 : IntKind.i64.wrap ((i : Int) - 1) = (i : Int) - 1:=IntWalk.i64_in _ (by omega)
   have hi0 : 1 ≤ i:=by have:=HM.out; omega
   go_wp2
   go_loopw [13] (fun u wr => ∃ (k : Nat) (Y1 Y2 : List Pas),a ≤ k ∧ k ≤ i - 1 ∧ u = .int .i64 k ∧ Hid (R1 = Y1 ++ Y2 ∧ a + Y1.length = k) ∧ Hid (RowS pasCells 6 base 75 g n c wr (P ++ Y1 ++ x :: (Y2 ++ R2 ++ S))) ∧ Hid (w.grownBy wr (some g))) (fun u _ => i - (intOf u).toNat)
   case atStart => exact ⟨a,[],R1,Nat.le_refl _,hi1,rfl,HK0,HROW0,HG0⟩
   case round =>
    clear HROW0 HG0 HK0 hxw
    obtain ⟨k,Y1,Y2,hka,hki,rfl,HK,HR,HG⟩:=hrel
    obtain ⟨wi,hwi⟩ : ∃ wi : World,wi = wr:=⟨_,rfl⟩
    rw [← hwi] at HR HG ⊢
    clear hwi
    by_cases hlk : k < i - 1
    ·obtain ⟨y,Y3,hY3⟩ : ∃ y Y3,Y2 = y :: Y3:=by
      cases Y2 with
      | nil => have h1:=HK.out; have h2:=HBR.out; have h3:=HM.out; rw [h1.1] at h2; simp at h2; omega
      | cons y Y3 => exact ⟨y,Y3,rfl⟩
     subst hY3
     have hrow : RowS pasCells 6 base 75 g n c wi ((P ++ Y1) ++ x :: (y :: (Y3 ++ R2 ++ S))):=by simpa using HR.out
     obtain ⟨q1,e1⟩:=list_mid (P ++ Y1) (y :: (Y3 ++ R2 ++ S)) x k (by have h1:=HA.out; have h2:=HK.out; simp; omega)
     obtain ⟨q2,e2⟩ : ∃ h : k + 1 < ((P ++ Y1) ++ x :: (y :: (Y3 ++ R2 ++ S))).length,((P ++ Y1) ++ x :: (y :: (Y3 ++ R2 ++ S)))[k + 1] = y:=list_mid2 (P ++ Y1) [] (Y3 ++ R2 ++ S) x y (k + 1) (by rw [List.length_nil]; have h : k = (P ++ Y1).length:=(by have h1:=HA.out; have h2:=HK.out; simp; omega); omega)
     have hVX_ : wi.rangeAt g ((k) * 6) (pasCells x):=by have h:=hrow.range pas_len q1; rw [e1] at h; exact h
     have hVY_ : wi.rangeAt g ((k + 1) * 6) (pasCells y):=by have h:=hrow.range pas_len q2; rw [e2] at h; exact h
     have hls : (((P ++ Y1) ++ x :: (y :: (Y3 ++ R2 ++ S))).set k y).set (k + 1) x = (P ++ Y1) ++ y :: (x :: (Y3 ++ R2 ++ S)):=list_swap (P ++ Y1) [] (Y3 ++ R2 ++ S) x y k (k + 1) (by have h1:=HA.out; have h2:=HK.out; simp; omega) (by rw [List.length_nil]; have h : k = (P ++ Y1).length:=(by have h1:=HA.out; have h2:=HK.out; simp; omega); omega)
     obtain ⟨VX,hX⟩ : ∃ X,(pasCells x).toArray = X:=⟨_,rfl⟩
     obtain ⟨VY,hY⟩ : ∃ X,(pasCells y).toArray = X:=⟨_,rfl⟩
     have HVX:=Lib.hid hX
     have HVY:=Lib.hid hY
     have HROW:=Lib.hid hrow
     have HLS:=Lib.hid hls
     have Q1:=Lib.hid q1
     have Q2:=Lib.hid q2
     have hkn1 : k < n:=by omega
     have hkn2 : k + 1 < n:=by omega
     clear hrow e1 e2 q1 q2 hX hY hls
     have hw3 : IntKind.i64.wrap ((k : Int) + 1) = (k : Int) + 1:=IntWalk.i64_in _ (by omega)
     have htn : ((k : Int) + 1).toNat = k + 1:=by omega
     go_wp2_with fail
     refine wp_region_pre 15 [(2,.slice (some ⟨g,0,none⟩) n c),(3,.int .i64 (k : Int)),(4,.int .i64 ((k : Int) + 1))] (fun ix vals v w1 => match ix with | 0 => v = .slice (some ⟨g,0,none⟩) n c | 1 => v = .int .i64 (k : Int) | 2 => v = .slice (some ⟨g,0,none⟩) n c | 3 => v = .int .i64 (k : Int) | 4 => v = .int .i64 ((k : Int) + 1) | 5 => v = .slice (some ⟨g,0,none⟩) n c | 6 => v = .int .i64 (k : Int) | 7 => v = .int .i64 ((k : Int) + 1) | 8 => v = .pointer (some ⟨g,(k + 1) * 6,none⟩) | 9 => v = .agg VY | 10 => v = .slice (some ⟨g,0,none⟩) n c | 11 => v = .int .i64 (k : Int) | 12 => v = .pointer (some ⟨g,(k) * 6,none⟩) | 13 => v = .agg VX | _ => v = .pointer (some ⟨g,(k) * 6,none⟩)) (by kernel_rfl) (by kernel_rfl) (by kernel_rfl) (by kernel_rfl) (by kernel_rfl) ?_ ?_ ?_ ?_ ?_ ?_
     ·refine ⟨⟨_,rfl,by kernel_rfl,by kernel_rfl,yields_move rfl rfl rfl⟩,⟨_,rfl,by kernel_rfl,by kernel_rfl,yields_move rfl rfl rfl⟩,⟨_,rfl,by kernel_rfl,by kernel_rfl,yields_add rfl rfl rfl rfl hw3⟩,trivial⟩
     ·intro j hj vals w1
      simp only [List.map_cons,List.map_nil,List.mem_cons,List.not_mem_nil,or_false] at hj
      rcases hj with rfl | rfl | rfl <;> rfl
     ·intro ix vals v w1 w2 hi hr hx; exact hr
     ·intro ix vals vals_ v w1 hi hv hr
      exact hr
     ·refine ⟨?_,?_,?_,?_,?_,?_,?_,?_,?_,?_,?_,?_,?_,?_,?_,trivial⟩
      ·intro vals w1 hx hd ha
       clear hd ha
       simp only [Lf]
       go_wp2
       exact q_
      ·intro vals w1 hx hd ha
       clear hd ha
       simp only [Lf,dstAt,Act.put,FR_]
       go_wp2
       exact q_
      ·intro vals w1 hx hd ha
       clear hd ha
       simp only [Lf,dstAt,Act.put,FR_]
       go_wp2
       exact q_
      ·intro vals w1 hx hd ha
       clear hd ha
       simp only [Lf,dstAt,Act.put,FR_]
       go_wp2
       exact q_
      ·intro vals w1 hx hd ha
       have e3 : vals 3 = .int .i64 (k : Int):=hd 3 (by decide)
       clear hd ha
       simp only [Lf,dstAt,Act.put,FR_,e3]
       clear e3
       go_wp2
       exact q_
      ·intro vals w1 hx hd ha
       clear hd ha
       simp only [Lf,dstAt,Act.put,FR_]
       go_wp2
       exact q_
      ·intro vals w1 hx hd ha
       clear hd ha
       simp only [Lf,dstAt,Act.put,FR_]
       go_wp2
       exact q_
      ·intro vals w1 hx hd ha
       have e6 : vals 6 = .int .i64 (k : Int):=hd 6 (by decide)
       clear hd ha
       simp only [Lf,dstAt,Act.put,FR_,e6]
       clear e6
       go_wp2
       exact q_
      ·intro vals w1 hx hd ha
       have e5 : vals 5 = .slice (some ⟨g,0,none⟩) n c:=hd 5 (by decide)
       have e7 : vals 7 = .int .i64 ((k : Int) + 1):=hd 7 (by decide)
       clear hd ha
       simp only [Lf,dstAt,Act.put,FR_,e5,e7]
       clear e5 e7
       go_wp2
       exact q_
      ·intro vals w1 hx hd ha
       have e8 : vals 8 = .pointer (some ⟨g,(k + 1) * 6,none⟩):=hd 8 (by decide)
       clear hd ha
       simp only [Lf,dstAt,Act.put,FR_,e8]
       clear e8
       refine wpList_load_st rfl _ _ rfl g ((k + 1) * 6) rfl VY (pasCells y) HVY.out _ (RA.range2 hVY_ hx.undrew) Tryz.underlying75 rfl pas_size ?_
       go_wp2
       exact q_
      ·intro vals w1 hx hd ha
       clear hd ha
       simp only [Lf,dstAt,Act.put,FR_]
       go_wp2
       exact q_
      ·intro vals w1 hx hd ha
       clear hd ha
       simp only [Lf,dstAt,Act.put,FR_]
       go_wp2
       exact q_
      ·intro vals w1 hx hd ha
       have e10 : vals 10 = .slice (some ⟨g,0,none⟩) n c:=hd 10 (by decide)
       have e11 : vals 11 = .int .i64 (k : Int):=hd 11 (by decide)
       clear hd ha
       simp only [Lf,dstAt,Act.put,FR_,e10,e11]
       clear e10 e11
       go_wp2
       exact q_
      ·intro vals w1 hx hd ha
       have e12 : vals 12 = .pointer (some ⟨g,(k) * 6,none⟩):=hd 12 (by decide)
       clear hd ha
       simp only [Lf,dstAt,Act.put,FR_,e12]
       clear e12
       refine wpList_load_st rfl _ _ rfl g ((k) * 6) rfl VX (pasCells x) HVX.out _ (RA.range2 hVX_ hx.undrew) Tryz.underlying75 rfl pas_size ?_
       go_wp2
       exact q_
      ·intro vals w1 hx hd ha
       have e0 : vals 0 = .slice (some ⟨g,0,none⟩) n c:=hd 0 (by decide)
       have e1 : vals 1 = .int .i64 (k : Int):=hd 1 (by decide)
       have e5 : vals 5 = .slice (some ⟨g,0,none⟩) n c:=hd 5 (by decide)
       have e6 : vals 6 = .int .i64 (k : Int):=hd 6 (by decide)
       have e7 : vals 7 = .int .i64 ((k : Int) + 1):=hd 7 (by decide)
       have e8 : vals 8 = .pointer (some ⟨g,(k + 1) * 6,none⟩):=hd 8 (by decide)
       have e9 : vals 9 = .agg VY:=hd 9 (by decide)
       have e13 : vals 13 = .agg VX:=hd 13 (by decide)
       clear hd ha
       simp only [Lf,dstAt,Act.put,FR_,e0,e1,e5,e6,e7,e8,e9,e13]
       clear e0 e1 e5 e6 e7 e8 e9 e13
       go_wp2
       exact q_
     intro vals w6 hx6 hf
     have e2 : vals 2 = .slice (some ⟨g,0,none⟩) n c:=hf 2 (by omega)
     have e4 : vals 4 = .int .i64 ((k : Int) + 1):=hf 4 (by omega)
     have e9 : vals 9 = .agg VY:=hf 9 (by omega)
     have e13 : vals 13 = .agg VX:=hf 13 (by omega)
     have e14 : vals 14 = .pointer (some ⟨g,(k) * 6,none⟩):=hf 14 (by omega)
     clear hf
     have hx6:=hx6.undrew
     have hR6:=HROW.out.ext hx6
     obtain ⟨hs1,hg1⟩:=hR6.store pas_len Q1.out y
     have ht1:=hR6.there pas_len Q1.out
     have hl1 : k + 1 < (((P ++ Y1) ++ x :: (y :: (Y3 ++ R2 ++ S))).set k y).length:=by rw [List.length_set]; exact Q2.out
     obtain ⟨hs2,hg2⟩:=hs1.store pas_len hl1 x
     have ht2:=hs1.there pas_len hl1
     rw [HLS.out] at hs2
     have hG6 : w.grownBy ((w6.setCells g (k * 6) (pasCells y)).setCells g ((k + 1) * 6) (pasCells x)) (some g):=gb_trans (gb_trans HG.out (grown_ext hx6)) (gb_trans hg1 hg2)
     have HT1:=Lib.hid ht1
     have HT2:=Lib.hid ht2
     have HS2:=Lib.hid hs2
     have HG6:=Lib.hid hG6
     clear ht1 ht2 hs1 hg1 hs2 hg2 hG6 hR6 hl1 hVX_ hVY_ hx6 HLS HROW hw3 htn
     refine tailF 15 _ _ 2 (by kernel_rfl) rfl ?_ (fun a w q => tailF 16 _ _ 1 (by kernel_rfl) rfl q (fun a w q => tail1 17 _ (by kernel_rfl) (by kernel_rfl) rfl q))
     simp only [Lf,dstAt,Act.put,FR_]
     rw [e2,e4,e9,e13,e14]
     clear e2 e4 e9 e13 e14
     have hw3 : IntKind.i64.wrap ((k : Int) + 1) = (k : Int) + 1:=IntWalk.i64_in _ (by omega)
     have htn : ((k : Int) + 1).toNat = k + 1:=by omega
     refine wpList_store_st rfl _ _ _ rfl g (k * 6) VY (pasCells y) HVY.out rfl rfl HT1.out pas_size (by simp [pasCells,Value.oneCell']) ?_
     go_wp2_with (refine wpList_store_st rfl _ _ _ rfl g ((k + 1) * 6) VX (pasCells x) HVX.out rfl rfl HT2.out pas_size (by simp [pasCells,Value.oneCell']) ?_)
     refine Qn_of ?_
     generalize (w6.setCells g (k * 6) (pasCells y)).setCells g ((k + 1) * 6) (pasCells x) = w8 at HS2 HG6 ⊢
     clear hw3 htn
     have HRN : Hid (RowS pasCells 6 base 75 g n c w8 (P ++ (Y1 ++ [y]) ++ x :: (Y3 ++ R2 ++ S))):=Lib.hid (by simpa using HS2.out)
     have HKN : Hid (R1 = (Y1 ++ [y]) ++ Y3 ∧ a + (Y1 ++ [y]).length = k + 1):=Lib.hid (by obtain ⟨h1,h2⟩:=HK.out; refine ⟨by rw [h1]; simp,?_⟩; simp; omega)
     clear HS2 HK HR HG
     have hw4 : IntKind.i64.wrap ((k : Int) + 1) = (k : Int) + 1:=IntWalk.i64_in _ (by omega)
     go_wp2
     go_roundw
     case rel => exact ⟨k + 1,_,_,by omega,by omega,by go_num,HKN,HRN,HG6⟩
     case measure => simp [intOf]; omega
    ·have hfin : RowS pasCells 6 base 75 g n c wi (P ++ mergeP (ltOf cv) [x] Bl ++ S):=by
      have h1:=HK.out
      have hY0 : Y2 = []:=List.eq_nil_of_length_eq_zero (by have h2:=HBR.out; have h3:=HM.out; rw [h1.1] at h2; simp at h2; omega)
      have h:=HR.out
      rw [hY0] at h h1
      rw [HRES.out,h1.1]
      simpa using h
     have HFIN:=Lib.hid hfin
     clear hfin
     have hlk2 : ¬ ((k : Int) < (i : Int) - 1):=by omega
     go_wp2
     (try simp only [Exit.inBlock,Exit.then])
     refine bodyPost_ret (results_none rfl _ _ _) rfl ?_
     exact ⟨rfl,by simpa using HFIN.out,HG.out⟩
set_option maxHeartbeats 8000000 in
set_option maxRecDepth 100000 in
theorem sym_r (K : Nat) (caps : Array Value) (cv : Pas → Pas → Int) (eg : ∀ args w,(callFunc K args).run Tryz.prog w = .ok (.enter K args) w) (hcmp : CmpC K caps cv) (hsw : SW (ltOf cv)) (base g n c : Nat) (hn : n ≤ 1000000) (P Al S : List Pas) (y0 : Pas) (a m b : Nat) (w : World) (ha : a = P.length) (hm : m = a + Al.length) (hb : b = m + 1) (hA2 : 2 ≤ Al.length) (hs : Srtd (ltOf cv) Al) (hr : RowS pasCells 6 base 75 g n c w (P ++ Al ++ y0 :: S)) :
  Calls Tryz.prog 148 #[.slice (some ⟨g,0,none⟩) n c,.int .i64 (a : Int),.int .i64 (m : Int),.int .i64 (b : Int),.func (.func K) #[] caps] w
   fun e w' => e = .returned (.tuple #[]) ∧ RowS pasCells 6 base 75 g n c w' (P ++ mergeP (ltOf cv) Al [y0] ++ S) ∧ w.grownBy w' (some g):=by
 have hc:=hr.le
 have hln:=hr.1
 have hbn : b ≤ n:=by simp at hln; omega
 obtain ⟨LL,hL⟩ : ∃ l,l = P ++ Al ++ y0 :: S:=⟨_,rfl⟩
 rw [← hL] at hr
 have HRW:=Lib.hid hr
 have HCMP:=Lib.hid hcmp
 have HSW:=Lib.hid hsw
 have HS:=Lib.hid hs
 have HA:=Lib.hid ha
 have HL0:=Lib.hid hL
 have h0 : Al = [] ++ Al ++ [] ∧ a + ([] : List Pas).length = a ∧ a + Al.length = m:=⟨by simp,rfl,hm.symm⟩
 have H0:=Lib.hid h0
 have HE : Hid (∀ u ∈ ([] : List Pas),ltOf cv y0 u = false):=Lib.hid (fun _ h => by cases h)
 have HF : Hid (∀ u ∈ ([] : List Pas),ltOf cv y0 u = true):=Lib.hid (fun _ h => by cases h)
 have hmb : a + 2 ≤ m:=by omega
 have hw0 : IntKind.i64.wrap ((m : Int) - (a : Int)) = (m : Int) - (a : Int):=IntWalk.i64_in _ (by omega)
 have he0 : ((m : Int) - (a : Int) == 1) = false:=by simp; omega
 have hw9 : IntKind.i64.wrap ((b : Int) - (m : Int)) = (b : Int) - (m : Int):=IntWalk.i64_in _ (by omega)
 have he9 : ((b : Int) - (m : Int) == 1) = true:=by simp; omega
 have hbm : m < b:=by omega
 have HM:=Lib.hid hm
 have HBM:=Lib.hid hb
 clear hr hcmp hsw hs hL ha hln hb h0 hm hA2
 go_enter Tryz.func148,Tryz.ntmps148
 go_wp2
 clear hw0 he0 hw9 he9
 go_loopw [14,15] (fun u v wr => ∃ (i j : Nat) (R1 Q R2 : List Pas),a ≤ i ∧ i ≤ j ∧ j ≤ m ∧ u = .int .i64 i ∧ v = .int .i64 j ∧ Hid (Al = R1 ++ Q ++ R2 ∧ a + R1.length = i ∧ i + Q.length = j) ∧ Hid (∀ u ∈ R1,ltOf cv y0 u = false) ∧ Hid (∀ u ∈ R2,ltOf cv y0 u = true) ∧ Ext w wr) (fun u v _ => (intOf v).toNat - (intOf u).toNat)
 case atStart => exact ⟨a,m,[],Al,[],Nat.le_refl _,by omega,Nat.le_refl _,rfl,rfl,H0,HE,HF,Ext.refl _⟩
 case round =>
  clear H0 HE HF
  obtain ⟨i,j,R1,Q,R2,him,hij,hjb,rfl,rfl,HQ,HE,HF,hxw⟩:=hrel
  by_cases hlt : i < j
  ·obtain ⟨h,hh⟩ : ∃ h,h = (i + j) / 2:=⟨_,rfl⟩
   have em : ((i : Int) + (j : Int)) / 2 = ((h : Nat) : Int):=by omega
   have hh1 : i ≤ h:=by omega
   have hh2 : h < j:=by omega
   clear hh
   go_wp2_with fail
   clear em
   obtain ⟨Q1,z,Q2,hQ,hQ1⟩:=list_at Q (h - i) (by have:=HQ.out; omega)
   have hq:=HQ.out
   rw [hQ] at hq
   have HQ2:=Lib.hid hq
   have HL : Hid (LL = P ++ (R1 ++ (Q1 ++ z :: Q2) ++ R2) ++ y0 :: S):=Lib.hid (by rw [HL0.out,← hq.1])
   have HQ1:=Lib.hid hQ1
   have hal : a + (R1 ++ (Q1 ++ z :: Q2) ++ R2).length = m:=by rw [← hq.1]; exact HM.out.symm
   have HAL:=Lib.hid hal
   clear hal
   have eqa : LL = (P ++ (R1 ++ (Q1 ++ z :: Q2) ++ R2)) ++ y0 :: (S):=by simp [HL.out]
   obtain ⟨qa,fqa⟩:=list_mid (P ++ (R1 ++ (Q1 ++ z :: Q2) ++ R2)) (S) y0 m (by have h1:=HAL.out; have h2:=HA.out; rw [List.length_append]; omega)
   have hX_ : wr.rangeAt g (m * 6) (pasCells y0):=by have h:=(HRW.out.ext hxw).range pas_len (k:=m) (by rw [eqa]; exact qa); simp only [eqa] at h; rw [fqa] at h; exact h
   obtain ⟨X,hhX⟩ : ∃ X,(pasCells y0).toArray = X:=⟨_,rfl⟩
   have HX:=Lib.hid hhX
   have eqb : LL = (P ++ (R1 ++ Q1)) ++ z :: (Q2 ++ R2 ++ y0 :: S):=by simp [HL.out]
   obtain ⟨qb,fqb⟩:=list_mid (P ++ (R1 ++ Q1)) (Q2 ++ R2 ++ y0 :: S) z h (by have h1:=HQ2.out; have h2:=HA.out; have h3:=HQ1.out; simp; omega)
   have hY_ : wr.rangeAt g (h * 6) (pasCells z):=by have h:=(HRW.out.ext hxw).range pas_len (k:=h) (by rw [eqb]; exact qb); simp only [eqb] at h; rw [fqb] at h; exact h
   obtain ⟨Y,hhY⟩ : ∃ X,(pasCells z).toArray = X:=⟨_,rfl⟩
   have HY:=Lib.hid hhY
   have hcc:=HCMP.out y0 z
   rw [hhX,hhY] at hcc
   obtain ⟨v_,hv⟩ : ∃ v,v = cv y0 z:=⟨_,rfl⟩
   rw [← hv] at hcc
   have HC:=Lib.hid hcc
   have hlt_ : ltOf cv y0 z = decide (v_ < 0):=by rw [hv]; rfl
   have HLT:=Lib.hid hlt_
   clear hcc hv hlt_ eqa eqb qa qb fqa fqb hhX hhY
   clear hQ hQ1 hq HQ HAL
   have hhn : h < n:=by omega
   have hmn : m < n:=by omega
   refine wp_region_obl 12 (fun ix vals v w1 => match ix with | 0 => v = .func (.func K) #[] caps | 1 => v = .slice (some ⟨g,0,none⟩) n c | 2 => v = .int .i64 (m : Int) | 3 => v = .pointer (some ⟨g,(m) * 6,none⟩) | 4 => v = .agg X | 5 => v = .slice (some ⟨g,0,none⟩) n c | 6 => v = .int .i64 (h : Int) | 7 => v = .pointer (some ⟨g,(h) * 6,none⟩) | 8 => v = .agg Y | 9 => v = .int .i64 v_ | 10 => v = .bool (decide (v_ < 0)) | _ => v = .bool (!decide (v_ < 0))) (by kernel_rfl) (by kernel_rfl) ?_ ?_ ?_ ?_
   ·intro ix vals v w1 w2 hi hr hx; exact hr
   ·intro ix vals vals_ v w1 hi hv hr
    exact hr
   ·refine obls_ofT [some 92,some 93,some 94,some 95,some 96,some 97,some 98,some 99,some 100,some 101,some 102,some 103] [(0,.slice (some ⟨g,0,none⟩) n c),(2,.int .i64 (m : Int)),(4,.func (.func K) #[] caps),(16,.int .i64 (h : Int))] 220 (by kernel_rfl) (by kernel_rfl) ⟨by kernel_rfl,by kernel_rfl,by kernel_rfl,by kernel_rfl,trivial⟩ ?_
    refine ⟨?_,?_,?_,?_,?_,?_,?_,?_,?_,?_,?_,?_,trivial⟩
    ·intro vals w1 hx hd
     refine .r [(4,.func (.func K) #[] caps)] (Op.move (Operand.const (.func (.func K) #[] caps))) 120 92 ⟨.out (by kernel_rfl) (by kernel_rfl),trivial⟩ ?_
     clear hd
     go_wp2
     exact q_
    ·intro vals w1 hx hd
     refine .r [(0,.slice (some ⟨g,0,none⟩) n c)] (Op.move (Operand.const (.slice (some ⟨g,0,none⟩) n c))) 36 93 ⟨.out (by kernel_rfl) (by kernel_rfl),trivial⟩ ?_
     clear hd
     go_wp2
     exact q_
    ·intro vals w1 hx hd
     refine .r [(2,.int .i64 (m : Int))] (Op.move (Operand.const (.int .i64 (m : Int)))) 3 94 ⟨.out (by kernel_rfl) (by kernel_rfl),trivial⟩ ?_
     clear hd
     go_wp2
     exact q_
    ·intro vals w1 hx hd
     refine .r [(93,.slice (some ⟨g,0,none⟩) n c),(94,.int .i64 (m : Int))] (Op.indexAddr 36 (Operand.const (.slice (some ⟨g,0,none⟩) n c)) (Operand.const (.int .i64 (m : Int)))) 0 95 ⟨.inn 1 (by kernel_rfl) (hd 1 (by decide)),.inn 2 (by kernel_rfl) (hd 2 (by decide)),trivial⟩ ?_
     clear hd
     go_wp2
     exact q_
    ·intro vals w1 hx hd
     refine .r [(95,.pointer (some ⟨g,(m) * 6,none⟩))] (Op.load 75 (Operand.const (.pointer (some ⟨g,(m) * 6,none⟩)))) 75 96 ⟨.inn 3 (by kernel_rfl) (hd 3 (by decide)),trivial⟩ ?_
     clear hd
     refine wpList_load_st rfl _ _ rfl g ((m) * 6) rfl X (pasCells y0) HX.out _ (RA.range2 hX_ hx.undrew) Tryz.underlying75 rfl pas_size ?_
     go_wp2
     exact q_
    ·intro vals w1 hx hd
     refine .r [(0,.slice (some ⟨g,0,none⟩) n c)] (Op.move (Operand.const (.slice (some ⟨g,0,none⟩) n c))) 36 97 ⟨.out (by kernel_rfl) (by kernel_rfl),trivial⟩ ?_
     clear hd
     go_wp2
     exact q_
    ·intro vals w1 hx hd
     refine .r [(16,.int .i64 (h : Int))] (Op.move (Operand.const (.int .i64 (h : Int)))) 3 98 ⟨.out (by kernel_rfl) (by kernel_rfl),trivial⟩ ?_
     clear hd
     go_wp2
     exact q_
    ·intro vals w1 hx hd
     refine .r [(97,.slice (some ⟨g,0,none⟩) n c),(98,.int .i64 (h : Int))] (Op.indexAddr 36 (Operand.const (.slice (some ⟨g,0,none⟩) n c)) (Operand.const (.int .i64 (h : Int)))) 0 99 ⟨.inn 5 (by kernel_rfl) (hd 5 (by decide)),.inn 6 (by kernel_rfl) (hd 6 (by decide)),trivial⟩ ?_
     clear hd
     go_wp2
     exact q_
    ·intro vals w1 hx hd
     refine .r [(99,.pointer (some ⟨g,(h) * 6,none⟩))] (Op.load 75 (Operand.const (.pointer (some ⟨g,(h) * 6,none⟩)))) 75 100 ⟨.inn 7 (by kernel_rfl) (hd 7 (by decide)),trivial⟩ ?_
     clear hd
     refine wpList_load_st rfl _ _ rfl g ((h) * 6) rfl Y (pasCells z) HY.out _ (RA.range2 hY_ hx.undrew) Tryz.underlying75 rfl pas_size ?_
     go_wp2
     exact q_
    ·intro vals w1 hx hd
     refine .r [(92,.func (.func K) #[] caps),(96,.agg X),(100,.agg Y)] (Op.call { callee:=Callee.value (Operand.const (.func (.func K) #[] caps)),args:=#[(Operand.const (.agg X)),(Operand.const (.agg Y))],argTypes:=#[75,75] }) 3 101 ⟨.inn 0 (by kernel_rfl) (hd 0 (by decide)),.inn 4 (by kernel_rfl) (hd 4 (by decide)),.inn 8 (by kernel_rfl) (hd 8 (by decide)),trivial⟩ ?_
     clear hd
     go_wp2_with fail
     refine (HC.out _).mono ?_
     rintro e w2 ⟨rfl,hb2⟩
     go_wp2
     exact ⟨rfl,hb2,rfl⟩
    ·intro vals w1 hx hd
     refine .r [(101,.int .i64 v_)] (Op.binOp BinOp.lss 3 (Operand.const (.int .i64 v_)) (Operand.const (Value.int IntKind.i64 0)) 3) 4 102 ⟨.inn 9 (by kernel_rfl) (hd 9 (by decide)),trivial⟩ ?_
     clear hd
     go_wp2
     exact q_
    ·intro vals w1 hx hd
     refine .r [(102,.bool (decide (v_ < 0)))] (Op.unOp UnOp.not 4 (Operand.const (.bool (decide (v_ < 0))))) 4 103 ⟨.inn 10 (by kernel_rfl) (hd 10 (by decide)),trivial⟩ ?_
     clear hd
     go_wp2
     exact q_
   intro vals w5 hx5 hf
   have e11 : vals 11 = .bool (!decide (v_ < 0)):=hf 11 (by omega)
   clear hf hX_ hY_
   have hxw:=Ext.trans hxw hx5.undrew
   clear hx5
   refine tail0 (by kernel_rfl) ?_
   simp only [Lf,dstAt,Act.put,FR_]
   rw [e11]
   clear e11
   have hw1 : IntKind.i64.wrap ((h : Int) + 1) = (h : Int) + 1:=IntWalk.i64_in _ (by omega)
   by_cases hv0 : v_ < 0
   ·have hd : decide (v_ < 0) = true:=by simpa using hv0
    have hlt2 : ltOf cv y0 z = true:=by rw [HLT.out]; exact hd
    have hN : Al = R1 ++ Q1 ++ ((z :: Q2) ++ R2) ∧ a + R1.length = i ∧ i + Q1.length = h:=by
     have h1:=HQ2.out
     have h2:=HQ1.out
     refine ⟨by rw [h1.1]; simp,?_,?_⟩ <;> simp at h1 ⊢ <;> omega
    have HN:=Lib.hid hN
    have HF2 : Hid (∀ u ∈ (z :: Q2) ++ R2,ltOf cv y0 u = true):=Lib.hid (s2_lt HSW.out (by rw [← HQ2.out.1]; exact HS.out) hlt2 HF.out)
    rw [hd]
    clear hN hlt2 HF HQ2 HQ1 HL hd
    go_wp2
    go_roundw
    case rel => exact ⟨i,h,_,_,_,him,hh1,by omega,rfl,rfl,HN,HE,HF2,hxw⟩
    case measure => simp [intOf]; omega
   ·have hd : decide (v_ < 0) = false:=by simpa using hv0
    have hlt2 : ltOf cv y0 z = false:=by rw [HLT.out]; exact hd
    have hN : Al = (R1 ++ (Q1 ++ [z])) ++ Q2 ++ R2 ∧ a + (R1 ++ (Q1 ++ [z])).length = h + 1 ∧ h + 1 + Q2.length = j:=by
     have h1:=HQ2.out
     have h2:=HQ1.out
     refine ⟨by rw [h1.1]; simp,?_,?_⟩ <;> simp at h1 ⊢ <;> omega
    have HN:=Lib.hid hN
    have HE2 : Hid (∀ u ∈ R1 ++ (Q1 ++ [z]),ltOf cv y0 u = false):=Lib.hid (s2_ge HSW.out (by rw [← HQ2.out.1]; exact HS.out) hlt2 HE.out)
    rw [hd]
    clear hN hlt2 HE HQ2 HQ1 HL hd
    go_wp2
    go_roundw
    case rel => exact ⟨h + 1,j,_,_,_,by omega,by omega,hjb,by go_num,rfl,HN,HE2,HF,hxw⟩
    case measure => simp [intOf]; omega
  ·have hij2 : i = j:=by omega
   have hq0 : Q = []:=List.eq_nil_of_length_eq_zero (by have:=HQ.out; omega)
   have hR : Al = R1 ++ R2 ∧ a + R1.length = i:=by have h:=HQ.out; rw [hq0] at h; exact ⟨by rw [h.1]; simp,h.2.1⟩
   have HBR:=Lib.hid hR
   have HROW0 : Hid (RowS pasCells 6 base 75 g n c wr (P ++ R1 ++ R2 ++ y0 :: ([] ++ S))):=Lib.hid (by have h:=HRW.out.ext hxw; rw [HL0.out,hR.1] at h; simpa using h)
   have HG0 : Hid (w.grownBy wr (some g)):=Lib.hid (grown_ext hxw)
   have HK0 : Hid (R2 = R2 ++ [] ∧ i + R2.length = m):=Lib.hid ⟨by simp,by have h:=HM.out; rw [hR.1] at h; simp at h; omega⟩
   have HRES : Hid (mergeP (ltOf cv) Al [y0] = R1 ++ y0 :: R2):=Lib.hid (by rw [hR.1]; exact merge_one_r y0 R1 R2 HE.out HF.out)
   clear hij2 hq0 hR HQ HE HF
   have him2 : i ≤ m:=by omega
   go_wp2
   go_loopw [17] (fun u wr => ∃ (k : Nat) (Y1 Y2 : List Pas),i ≤ k ∧ k ≤ m ∧ u = .int .i64 k ∧ Hid (R2 = Y1 ++ Y2 ∧ i + Y1.length = k) ∧ Hid (RowS pasCells 6 base 75 g n c wr (P ++ R1 ++ Y1 ++ y0 :: (Y2 ++ S))) ∧ Hid (w.grownBy wr (some g))) (fun u _ => (intOf u).toNat)
   case atStart => exact ⟨m,R2,[],him2,Nat.le_refl _,rfl,HK0,HROW0,HG0⟩
   case round =>
    clear HROW0 HG0 HK0 hxw
    obtain ⟨k,Y1,Y2,hka,hki,rfl,HK,HR,HG⟩:=hrel
    obtain ⟨wi,hwi⟩ : ∃ wi : World,wi = wr:=⟨_,rfl⟩
    rw [← hwi] at HR HG ⊢
    clear hwi
    by_cases hlk : i < k
    ·obtain ⟨Y3,y,hY3⟩ : ∃ Y3 y,Y1 = Y3 ++ [y]:=by
      rcases List.eq_nil_or_concat Y1 with h | ⟨Y,y,h⟩
      ·have h1:=HK.out; rw [h] at h1; simp at h1; omega
      ·exact ⟨Y,y,by simpa using h⟩
     subst hY3
     have hrow : RowS pasCells 6 base 75 g n c wi ((P ++ R1 ++ Y3) ++ y :: (y0 :: (Y2 ++ S))):=by simpa using HR.out
     obtain ⟨q1,e1⟩:=list_mid (P ++ R1 ++ Y3) (y0 :: (Y2 ++ S)) y (k - 1) (by have h1:=HA.out; have h2:=HK.out; have h3:=HBR.out; simp at h2 ⊢; omega)
     obtain ⟨q2,e2⟩ : ∃ h : k < ((P ++ R1 ++ Y3) ++ y :: (y0 :: (Y2 ++ S))).length,((P ++ R1 ++ Y3) ++ y :: (y0 :: (Y2 ++ S)))[k] = y0:=list_mid2 (P ++ R1 ++ Y3) [] (Y2 ++ S) y y0 k (by rw [List.length_nil]; have h : k - 1 = (P ++ R1 ++ Y3).length:=(by have h1:=HA.out; have h2:=HK.out; have h3:=HBR.out; simp at h2 ⊢; omega); omega)
     have hVX_ : wi.rangeAt g ((k - 1) * 6) (pasCells y):=by have h:=hrow.range pas_len q1; rw [e1] at h; exact h
     have hVY_ : wi.rangeAt g ((k) * 6) (pasCells y0):=by have h:=hrow.range pas_len q2; rw [e2] at h; exact h
     have hls : (((P ++ R1 ++ Y3) ++ y :: (y0 :: (Y2 ++ S))).set k y).set (k - 1) y0 = (P ++ R1 ++ Y3) ++ y0 :: (y :: (Y2 ++ S)):=list_set2 (P ++ R1 ++ Y3) (Y2 ++ S) y0 y k (by have h : k - 1 = (P ++ R1 ++ Y3).length:=(by have h1:=HA.out; have h2:=HK.out; have h3:=HBR.out; simp at h2 ⊢; omega); omega)
     obtain ⟨VX,hX⟩ : ∃ X,(pasCells y).toArray = X:=⟨_,rfl⟩
     obtain ⟨VY,hY⟩ : ∃ X,(pasCells y0).toArray = X:=⟨_,rfl⟩
     have HVX:=Lib.hid hX
     have HVY:=Lib.hid hY
     have HROW:=Lib.hid hrow
     have HLS:=Lib.hid hls
     have Q1:=Lib.hid q1
     have Q2:=Lib.hid q2
     have hkn1 : k < n:=by omega
     have hkn2 : k - 1 < n:=by omega
     clear hrow e1 e2 q1 q2 hX hY hls
     have hw3 : IntKind.i64.wrap ((k : Int) - 1) = (k : Int) - 1:=IntWalk.i64_in _ (by omega)
     have htn : ((k : Int) - 1).toNat = k - 1:=by omega
     go_wp2_with fail
     refine wp_region_pre 15 [(2,.slice (some ⟨g,0,none⟩) n c),(3,.int .i64 (k : Int)),(4,.int .i64 ((k : Int) - 1))] (fun ix vals v w1 => match ix with | 0 => v = .slice (some ⟨g,0,none⟩) n c | 1 => v = .int .i64 (k : Int) | 2 => v = .slice (some ⟨g,0,none⟩) n c | 3 => v = .int .i64 (k : Int) | 4 => v = .int .i64 ((k : Int) - 1) | 5 => v = .slice (some ⟨g,0,none⟩) n c | 6 => v = .int .i64 (k : Int) | 7 => v = .int .i64 ((k : Int) - 1) | 8 => v = .pointer (some ⟨g,(k - 1) * 6,none⟩) | 9 => v = .agg VX | 10 => v = .slice (some ⟨g,0,none⟩) n c | 11 => v = .int .i64 (k : Int) | 12 => v = .pointer (some ⟨g,(k) * 6,none⟩) | 13 => v = .agg VY | _ => v = .pointer (some ⟨g,(k) * 6,none⟩)) (by kernel_rfl) (by kernel_rfl) (by kernel_rfl) (by kernel_rfl) (by kernel_rfl) ?_ ?_ ?_ ?_ ?_ ?_
     ·refine ⟨⟨_,rfl,by kernel_rfl,by kernel_rfl,yields_move rfl rfl rfl⟩,⟨_,rfl,by kernel_rfl,by kernel_rfl,yields_move rfl rfl rfl⟩,⟨_,rfl,by kernel_rfl,by kernel_rfl,yields_sub rfl rfl rfl rfl hw3⟩,trivial⟩
     ·intro j hj vals w1
      simp only [List.map_cons,List.map_nil,List.mem_cons,List.not_mem_nil,or_false] at hj
      rcases hj with rfl | rfl | rfl <;> rfl
     ·intro ix vals v w1 w2 hi hr hx; exact hr
     ·intro ix vals vals_ v w1 hi hv hr
      exact hr
     ·refine ⟨?_,?_,?_,?_,?_,?_,?_,?_,?_,?_,?_,?_,?_,?_,?_,trivial⟩
      ·intro vals w1 hx hd ha
       clear hd ha
       simp only [Lf]
       go_wp2
       exact q_
      ·intro vals w1 hx hd ha
       clear hd ha
       simp only [Lf,dstAt,Act.put,FR_]
       go_wp2
       exact q_
      ·intro vals w1 hx hd ha
       clear hd ha
       simp only [Lf,dstAt,Act.put,FR_]
       go_wp2
       exact q_
      ·intro vals w1 hx hd ha
       clear hd ha
       simp only [Lf,dstAt,Act.put,FR_]
       go_wp2
       exact q_
      ·intro vals w1 hx hd ha
       have e3 : vals 3 = .int .i64 (k : Int):=hd 3 (by decide)
       clear hd ha
       simp only [Lf,dstAt,Act.put,FR_,e3]
       clear e3
       go_wp2
       exact q_
      ·intro vals w1 hx hd ha
       clear hd ha
       simp only [Lf,dstAt,Act.put,FR_]
       go_wp2
       exact q_
      ·intro vals w1 hx hd ha
       clear hd ha
       simp only [Lf,dstAt,Act.put,FR_]
       go_wp2
       exact q_
      ·intro vals w1 hx hd ha
       have e6 : vals 6 = .int .i64 (k : Int):=hd 6 (by decide)
       clear hd ha
       simp only [Lf,dstAt,Act.put,FR_,e6]
       clear e6
       go_wp2
       exact q_
      ·intro vals w1 hx hd ha
       have e5 : vals 5 = .slice (some ⟨g,0,none⟩) n c:=hd 5 (by decide)
       have e7 : vals 7 = .int .i64 ((k : Int) - 1):=hd 7 (by decide)
       clear hd ha
       simp only [Lf,dstAt,Act.put,FR_,e5,e7]
       clear e5 e7
       go_wp2
       exact q_
      ·intro vals w1 hx hd ha
       have e8 : vals 8 = .pointer (some ⟨g,(k - 1) * 6,none⟩):=hd 8 (by decide)
       clear hd ha
       simp only [Lf,dstAt,Act.put,FR_,e8]
       clear e8
       refine wpList_load_st rfl _ _ rfl g ((k - 1) * 6) rfl VX (pasCells y) HVX.out _ (RA.range2 hVX_ hx.undrew) Tryz.underlying75 rfl pas_size ?_
       go_wp2
       exact q_
      ·intro vals w1 hx hd ha
       clear hd ha
       simp only [Lf,dstAt,Act.put,FR_]
       go_wp2
       exact q_
      ·intro vals w1 hx hd ha
       clear hd ha
       simp only [Lf,dstAt,Act.put,FR_]
       go_wp2
       exact q_
      ·intro vals w1 hx hd ha
       have e10 : vals 10 = .slice (some ⟨g,0,none⟩) n c:=hd 10 (by decide)
       have e11 : vals 11 = .int .i64 (k : Int):=hd 11 (by decide)
       clear hd ha
       simp only [Lf,dstAt,Act.put,FR_,e10,e11]
       clear e10 e11
       go_wp2
       exact q_
      ·intro vals w1 hx hd ha
       have e12 : vals 12 = .pointer (some ⟨g,(k) * 6,none⟩):=hd 12 (by decide)
       clear hd ha
       simp only [Lf,dstAt,Act.put,FR_,e12]
       clear e12
       refine wpList_load_st rfl _ _ rfl g ((k) * 6) rfl VY (pasCells y0) HVY.out _ (RA.range2 hVY_ hx.undrew) Tryz.underlying75 rfl pas_size ?_
       go_wp2
       exact q_
      ·intro vals w1 hx hd ha
       have e0 : vals 0 = .slice (some ⟨g,0,none⟩) n c:=hd 0 (by decide)
       have e1 : vals 1 = .int .i64 (k : Int):=hd 1 (by decide)
       have e5 : vals 5 = .slice (some ⟨g,0,none⟩) n c:=hd 5 (by decide)
       have e6 : vals 6 = .int .i64 (k : Int):=hd 6 (by decide)
       have e7 : vals 7 = .int .i64 ((k : Int) - 1):=hd 7 (by decide)
       have e8 : vals 8 = .pointer (some ⟨g,(k - 1) * 6,none⟩):=hd 8 (by decide)
       have e9 : vals 9 = .agg VX:=hd 9 (by decide)
       have e13 : vals 13 = .agg VY:=hd 13 (by decide)
       clear hd ha
       simp only [Lf,dstAt,Act.put,FR_,e0,e1,e5,e6,e7,e8,e9,e13]
       clear e0 e1 e5 e6 e7 e8 e9 e13
       go_wp2
       exact q_
     intro vals w6 hx6 hf
     have e2 : vals 2 = .slice (some ⟨g,0,none⟩) n c:=hf 2 (by omega)
     have e4 : vals 4 = .int .i64 ((k : Int) - 1):=hf 4 (by omega)
     have e9 : vals 9 = .agg VX:=hf 9 (by omega)
     have e13 : vals 13 = .agg VY:=hf 13 (by omega)
     have e14 : vals 14 = .pointer (some ⟨g,(k) * 6,none⟩):=hf 14 (by omega)
     clear hf
     have hx6:=hx6.undrew
     have hR6:=HROW.out.ext hx6
     obtain ⟨hs1,hg1⟩:=hR6.store pas_len Q2.out y
     have ht1:=hR6.there pas_len Q2.out
     have hl1 : k - 1 < (((P ++ R1 ++ Y3) ++ y :: (y0 :: (Y2 ++ S))).set k y).length:=by rw [List.length_set]; exact Q1.out
     obtain ⟨hs2,hg2⟩:=hs1.store pas_len hl1 y0
     have ht2:=hs1.there pas_len hl1
     rw [HLS.out] at hs2
     have hG6 : w.grownBy ((w6.setCells g (k * 6) (pasCells y)).setCells g ((k - 1) * 6) (pasCells y0)) (some g):=gb_trans (gb_trans HG.out (grown_ext hx6)) (gb_trans hg1 hg2)
     have HT1:=Lib.hid ht1
     have HT2:=Lib.hid ht2
     have HS2:=Lib.hid hs2
     have HG6:=Lib.hid hG6
     clear ht1 ht2 hs1 hg1 hs2 hg2 hG6 hR6 hl1 hVX_ hVY_ hx6 HLS HROW hw3 htn
     refine tailF 15 _ _ 2 (by kernel_rfl) rfl ?_ (fun a w q => tailF 16 _ _ 1 (by kernel_rfl) rfl q (fun a w q => tail1 17 _ (by kernel_rfl) (by kernel_rfl) rfl q))
     simp only [Lf,dstAt,Act.put,FR_]
     rw [e2,e4,e9,e13,e14]
     clear e2 e4 e9 e13 e14
     have hw3 : IntKind.i64.wrap ((k : Int) - 1) = (k : Int) - 1:=IntWalk.i64_in _ (by omega)
     have htn : ((k : Int) - 1).toNat = k - 1:=by omega
     refine wpList_store_st rfl _ _ _ rfl g (k * 6) VX (pasCells y) HVX.out rfl rfl HT1.out pas_size (by simp [pasCells,Value.oneCell']) ?_
     go_wp2_with (refine wpList_store_st rfl _ _ _ rfl g ((k - 1) * 6) VY (pasCells y0) HVY.out rfl rfl HT2.out pas_size (by simp [pasCells,Value.oneCell']) ?_)
     refine Qn_of ?_
     generalize (w6.setCells g (k * 6) (pasCells y)).setCells g ((k - 1) * 6) (pasCells y0) = w8 at HS2 HG6 ⊢
     clear hw3 htn
     have HRN : Hid (RowS pasCells 6 base 75 g n c w8 (P ++ R1 ++ Y3 ++ y0 :: ((y :: Y2) ++ S))):=Lib.hid (by simpa using HS2.out)
     have HKN : Hid (R2 = Y3 ++ (y :: Y2) ∧ i + Y3.length = k - 1):=Lib.hid (by obtain ⟨h1,h2⟩:=HK.out; refine ⟨by rw [h1]; simp,?_⟩; simp at h2; omega)
     clear HS2 HK HR HG
     have hw4 : IntKind.i64.wrap ((k : Int) - 1) = (k : Int) - 1:=IntWalk.i64_in _ (by omega)
     go_wp2
     go_roundw
     case rel => exact ⟨k - 1,_,_,by omega,by omega,by rw [show ((k - 1 : Nat) : Int) = (k : Int) - 1 by omega],HKN,HRN,HG6⟩
     case measure => simp [intOf]; omega
    ·have hfin : RowS pasCells 6 base 75 g n c wi (P ++ mergeP (ltOf cv) Al [y0] ++ S):=by
      have h1:=HK.out
      have hY0 : Y1 = []:=List.eq_nil_of_length_eq_zero (by omega)
      have h:=HR.out
      rw [hY0] at h h1
      rw [HRES.out,h1.1]
      simpa using h
     have HFIN:=Lib.hid hfin
     clear hfin
     have hlk2 : ¬ ((i : Int) < (k : Int)):=by omega
     go_wp2
     (try simp only [Exit.inBlock,Exit.then])
     refine bodyPost_ret (results_none rfl _ _ _) rfl ?_
     exact ⟨rfl,by simpa using HFIN.out,HG.out⟩
end Go.Proofs.YtjidhhfabfnhnaaGreat
