/- Tiny frames, all of a region at once: an obligation of an operation bears neither the region's operations nor the frame. -/
import Derived.Test.YtjidhhfabfnhnaaGreatK14
import Derived.Test.YtjidhhfabfnhnaaGreatK01
namespace Go.Proofs.YtjidhhfabfnhnaaGreat
open Go.RowKit
section
variable {α : Type} {lt : α → α → Bool}
theorem list_at {α : Type} (Q : List α) (d : Nat) (h : d < Q.length) : ∃ Q1 z Q2,Q = Q1 ++ z :: Q2 ∧ Q1.length = d:=by
 refine ⟨Q.take d,Q[d],Q.drop (d + 1),?_,by simp; omega⟩
 rw [← List.drop_eq_getElem_cons h,List.take_append_drop]
theorem list_cut {α : Type} (Q : List α) (d : Nat) (h : d ≤ Q.length) : ∃ Q1 Q2,Q = Q1 ++ Q2 ∧ Q1.length = d:=⟨Q.take d,Q.drop d,(List.take_append_drop d Q).symm,by simp; omega⟩
theorem merge_one_l (x : α) (R1 R2 : List α) (h1 : ∀ y ∈ R1,lt y x = true) (h2 : ∀ y ∈ R2,lt y x = false) : mergeP lt [x] (R1 ++ R2) = R1 ++ x :: R2:=by
 have e1:=merge_split lt [] [x] R1 R2 (fun _ h => by cases h) (fun y hy z hz => by obtain rfl:=List.mem_singleton.1 hz; exact h1 y hy)
 have e2:=merge_split lt [x] [] [] R2 (fun z hz y hy => by obtain rfl:=List.mem_singleton.1 hz; exact h2 y hy) (fun _ h => by cases h)
 simp only [List.nil_append,List.append_nil,nil_mergeP,mergeP_nil] at e1 e2
 rw [e1,e2]
 rfl
theorem merge_one_r (y : α) (A1 A2 : List α) (h1 : ∀ x ∈ A1,lt y x = false) (h2 : ∀ x ∈ A2,lt y x = true) : mergeP lt (A1 ++ A2) [y] = A1 ++ y :: A2:=by
 have e1:=merge_split lt A1 A2 [] [y] (fun x hx z hz => by obtain rfl:=List.mem_singleton.1 hz; exact h1 x hx) (fun _ h => by cases h)
 have e2:=merge_split lt [] A2 [y] [] (fun _ h => by cases h) (fun z hz x hx => by obtain rfl:=List.mem_singleton.1 hz; exact h2 x hx)
 simp only [List.nil_append,List.append_nil,nil_mergeP,mergeP_nil] at e1 e2
 rw [e1,e2]
 rfl
theorem sw_irr (h : SW lt) (a : α) : lt a a = false:=by
 cases e : lt a a
 ·rfl
 ·have h2:=h.asy _ _ e
  rw [e] at h2; exact h2
theorem srtd_mid {R1 Q1 Q2 R2 : List α} {z : α} (hs : Srtd lt (R1 ++ (Q1 ++ z :: Q2) ++ R2)) : (∀ y ∈ Q1,lt z y = false) ∧ (∀ y ∈ Q2,lt y z = false) ∧ (∀ y ∈ R1,lt z y = false) ∧ ∀ y ∈ R2,lt y z = false:=by
 obtain ⟨h1,_,h2⟩:=srtd_append.1 hs
 obtain ⟨_,h3,h4⟩:=srtd_append.1 h1
 obtain ⟨_,h5,h6⟩:=srtd_append.1 h3
 exact ⟨fun y hy => h6 y hy z (by simp),fun y hy => h5.1 y hy,fun y hy => h4 y hy z (by simp),fun y hy => h2 z (by simp) y hy⟩
theorem s1_lt (h : SW lt) {R1 Q1 Q2 R2 : List α} {z x : α} (hs : Srtd lt (R1 ++ (Q1 ++ z :: Q2) ++ R2)) (hz : lt z x = true) (hR : ∀ y ∈ R1,lt y x = true) : ∀ y ∈ R1 ++ (Q1 ++ [z]),lt y x = true:=by
 intro y hy
 rcases List.mem_append.1 hy with hy | hy
 ·exact hR y hy
 rcases List.mem_append.1 hy with hy | hy
 ·cases e : lt y x
  ·have:=h.ntr z y x ((srtd_mid hs).1 y hy) e
   rw [this] at hz; cases hz
  ·rfl
 ·obtain rfl:=List.mem_singleton.1 hy; exact hz
theorem s1_ge (h : SW lt) {R1 Q1 Q2 R2 : List α} {z x : α} (hs : Srtd lt (R1 ++ (Q1 ++ z :: Q2) ++ R2)) (hz : lt z x = false) (hR : ∀ y ∈ R2,lt y x = false) : ∀ y ∈ (z :: Q2) ++ R2,lt y x = false:=by
 intro y hy
 rcases List.mem_append.1 hy with hy | hy
 ·rcases List.mem_cons.1 hy with rfl | hy
  ·exact hz
  ·exact h.ntr y z x ((srtd_mid hs).2.1 y hy) hz
 ·exact hR y hy
theorem s2_ge (h : SW lt) {R1 Q1 Q2 R2 : List α} {z x : α} (hs : Srtd lt (R1 ++ (Q1 ++ z :: Q2) ++ R2)) (hz : lt x z = false) (hR : ∀ y ∈ R1,lt x y = false) : ∀ y ∈ R1 ++ (Q1 ++ [z]),lt x y = false:=by
 intro y hy
 rcases List.mem_append.1 hy with hy | hy
 ·exact hR y hy
 rcases List.mem_append.1 hy with hy | hy
 ·exact h.ntr x z y hz ((srtd_mid hs).1 y hy)
 ·obtain rfl:=List.mem_singleton.1 hy; exact hz
theorem s2_lt (h : SW lt) {R1 Q1 Q2 R2 : List α} {z x : α} (hs : Srtd lt (R1 ++ (Q1 ++ z :: Q2) ++ R2)) (hz : lt x z = true) (hR : ∀ y ∈ R2,lt x y = true) : ∀ y ∈ (z :: Q2) ++ R2,lt x y = true:=by
 intro y hy
 rcases List.mem_append.1 hy with hy | hy
 ·rcases List.mem_cons.1 hy with rfl | hy
  ·exact hz
  ·cases e : lt x y
   ·have:=h.ntr x y z e ((srtd_mid hs).2.1 y hy)
    rw [this] at hz; cases hz
   ·rfl
 ·exact hR y hy
theorem s3_ge (h : SW lt) {A1 Q1 Q2 A2 B1 T1 T2 B2 : List α} {z y : α} (ha : Srtd lt (A1 ++ (Q1 ++ z :: Q2) ++ A2)) (hb : Srtd lt (B1 ++ (T1 ++ y :: T2) ++ B2)) (hz : lt y z = false) : ∀ u ∈ A1 ++ (Q1 ++ [z]),∀ v ∈ (y :: T2) ++ B2,lt v u = false:=by
 intro u hu v hv
 obtain ⟨a1,_,a3,_⟩:=srtd_mid ha
 obtain ⟨_,b2,_,b4⟩:=srtd_mid hb
 have h1 : lt z u = false:=by
  rcases List.mem_append.1 hu with hu | hu
  ·exact a3 u hu
  rcases List.mem_append.1 hu with hu | hu
  ·exact a1 u hu
  ·obtain rfl:=List.mem_singleton.1 hu; exact sw_irr h _
 have h2 : lt v y = false:=by
  rcases List.mem_append.1 hv with hv | hv
  ·rcases List.mem_cons.1 hv with rfl | hv
   ·exact sw_irr h _
   ·exact b2 v hv
  ·exact b4 v hv
 exact h.ntr v z u (h.ntr v y z h2 hz) h1
theorem s3_lt (h : SW lt) {A1 Q1 Q2 A2 B1 T1 T2 B2 : List α} {z y : α} (ha : Srtd lt (A1 ++ (Q1 ++ z :: Q2) ++ A2)) (hb : Srtd lt (B1 ++ (T1 ++ y :: T2) ++ B2)) (hz : lt y z = true) : ∀ v ∈ B1 ++ (T1 ++ [y]),∀ u ∈ (z :: Q2) ++ A2,lt v u = true:=by
 intro v hv u hu
 obtain ⟨_,a2,_,a4⟩:=srtd_mid ha
 obtain ⟨b1,_,b3,_⟩:=srtd_mid hb
 have h1 : lt u z = false:=by
  rcases List.mem_append.1 hu with hu | hu
  ·rcases List.mem_cons.1 hu with rfl | hu
   ·exact sw_irr h _
   ·exact a2 u hu
  ·exact a4 u hu
 have h2 : lt y v = false:=by
  rcases List.mem_append.1 hv with hv | hv
  ·exact b3 v hv
  rcases List.mem_append.1 hv with hv | hv
  ·exact b1 v hv
  ·obtain rfl:=List.mem_singleton.1 hv; exact sw_irr h _
 cases e : lt v u
 ·have:=h.ntr y v z h2 (h.ntr v u z e h1)
  rw [this] at hz; cases hz
 ·rfl
theorem list_swap {α : Type} (P Q R : List α) (x y : α) (i j : Nat) (hi : i = P.length) (hj : j = P.length + 1 + Q.length) : ((P ++ x :: (Q ++ y :: R)).set i y).set j x = P ++ y :: (Q ++ x :: R):=by
 subst hi hj
 rw [List.set_append_right _ _ (Nat.le_refl _),Nat.sub_self,List.set_cons_zero,List.set_append_right _ _ (by omega),show P.length + 1 + Q.length - P.length = Q.length + 1 by omega,List.set_cons_succ,List.set_append_right _ _ (Nat.le_refl _),Nat.sub_self,List.set_cons_zero]
theorem list_mid2 {α : Type} (P Q R : List α) (x y : α) (j : Nat) (hj : j = P.length + 1 + Q.length) : ∃ h : j < (P ++ x :: (Q ++ y :: R)).length,(P ++ x :: (Q ++ y :: R))[j] = y:=by
 have e : P ++ x :: (Q ++ y :: R) = (P ++ x :: Q) ++ y :: R:=by simp
 obtain ⟨h1,h2⟩:=list_mid (P ++ x :: Q) R y j (by simp; omega)
 exact ⟨by rw [e]; exact h1,by simp only [e]; exact h2⟩
end
theorem yields_add {P : Program} {ops : Array Oper} {o : Oper} {a : Act} {t : TypeId} {x y : Operand} {p q r : Int} (ho : o.op = .binOp .add t x y t) (hg : o.guard = none) (hx : a.eval x = .int .i64 p) (hy : a.eval y = .int .i64 q) (hr : IntKind.i64.wrap (p + q) = r) : Yields P ops o (.int .i64 r) a :=
 .inl ⟨by simp [Region.wanted,hg],fun w => by
  simp only [execOp,ho,hx,hy]
  simp [go_sem,hr]⟩
end Go.Proofs.YtjidhhfabfnhnaaGreat
namespace Go.Proofs.YtjidhhfabfnhnaaGreat
open Go.RowKit
set_option maxHeartbeats 4000000 in
theorem swap_any (K : Nat) (caps : Array Value) (base g n c a b d : Nat) (P X M Y S : List Pas) (w : World) (ha : a = P.length) (hb : b = P.length + X.length + M.length) (hd : d = X.length) (hd2 : d = Y.length) (hn : n ≤ 1000000) (hr : RowS pasCells 6 base 75 g n c w (P ++ X ++ M ++ Y ++ S)) :
  Calls Tryz.prog 170 #[.slice (some ⟨g,0,none⟩) n c,.int .i64 (a : Int),.int .i64 (b : Int),.int .i64 (d : Int),.func (.func K) #[] caps] w
   fun e w' => e = .returned (.tuple #[]) ∧ RowS pasCells 6 base 75 g n c w' (P ++ Y ++ M ++ X ++ S) ∧ w.grownBy w' (some g):=by
 have hc:=hr.le
 have hln:=hr.1
 have hbn : b + d ≤ n:=by simp at hln; omega
 have HR0:=Lib.hid hr
 have HA:=Lib.hid ha
 have HB:=Lib.hid hb
 have HD:=Lib.hid hd
 have HD2:=Lib.hid hd2
 have hab : a ≤ b:=by omega
 have HG0:=Lib.hid (grown_refl w (some g))
 clear hr hln ha hb hd hd2
 go_enter Tryz.func170,Tryz.ntmps170
 go_wp2
 go_loopw [10] (fun i wr => ∃ (k : Nat) (X1 X2 Y1 Y2 : List Pas),k ≤ d ∧ i = .int .i64 k ∧ Hid (X = X1 ++ X2 ∧ Y = Y1 ++ Y2 ∧ X1.length = k ∧ Y1.length = k) ∧ Hid (RowS pasCells 6 base 75 g n c wr (P ++ Y1 ++ X2 ++ M ++ X1 ++ Y2 ++ S)) ∧ Hid (w.grownBy wr (some g))) (fun i _ => d - (intOf i).toNat)
 case atStart => exact ⟨0,[],X,[],Y,Nat.zero_le _,rfl,Lib.hid ⟨rfl,rfl,rfl,rfl⟩,Lib.hid (by simpa using HR0.out),HG0⟩
 case round =>
  clear HR0 HG0
  obtain ⟨k,X1,X2,Y1,Y2,hkd,rfl,HS,HR,HG⟩:=hrel
  obtain ⟨wi,hwi⟩ : ∃ wi : World,wi = wr:=⟨_,rfl⟩
  rw [← hwi] at HR HG ⊢
  clear hwi
  by_cases hlt : k < d
  ·obtain ⟨x,X3,hX3⟩ : ∃ x X3,X2 = x :: X3:=by
    cases X2 with
    | nil => obtain ⟨h1,_,h3,_⟩:=HS.out; have:=HD.out; rw [h1] at this; simp at this; omega
    | cons x X3 => exact ⟨x,X3,rfl⟩
   obtain ⟨y,Y3,hY3⟩ : ∃ y Y3,Y2 = y :: Y3:=by
    cases Y2 with
    | nil => obtain ⟨_,h1,_,h3⟩:=HS.out; have:=HD2.out; rw [h1] at this; simp at this; omega
    | cons y Y3 => exact ⟨y,Y3,rfl⟩
   subst hX3 hY3
   have hrow : RowS pasCells 6 base 75 g n c wi ((P ++ Y1) ++ x :: ((X3 ++ M ++ X1) ++ y :: (Y3 ++ S))):=by simpa using HR.out
   have hi1 : a + k = (P ++ Y1).length:=by obtain ⟨_,_,_,h4⟩:=HS.out; have:=HA.out; simp; omega
   have hi2 : b + k = (P ++ Y1).length + 1 + (X3 ++ M ++ X1).length:=by obtain ⟨h1,_,h3,h4⟩:=HS.out; have:=HB.out; rw [h1] at this; simp at this ⊢; omega
   obtain ⟨q1,e1⟩:=list_mid (P ++ Y1) ((X3 ++ M ++ X1) ++ y :: (Y3 ++ S)) x (a + k) hi1
   obtain ⟨q2,e2⟩:=list_mid2 (P ++ Y1) (X3 ++ M ++ X1) (Y3 ++ S) x y (b + k) hi2
   have hX_:=hrow.range pas_len q1
   have hY_:=hrow.range pas_len q2
   rw [e1] at hX_
   rw [e2] at hY_
   obtain ⟨VX,hX⟩ : ∃ X,(pasCells x).toArray = X:=⟨_,rfl⟩
   obtain ⟨VY,hY⟩ : ∃ Y,(pasCells y).toArray = Y:=⟨_,rfl⟩
   have HX:=Lib.hid hX
   have HY:=Lib.hid hY
   have HROW:=Lib.hid hrow
   have Q1:=Lib.hid q1
   have Q2:=Lib.hid q2
   have I1:=Lib.hid hi1
   have I2:=Lib.hid hi2
   clear hrow hi1 hi2 e1 e2 q1 q2 hX hY
   have hka : IntKind.i64.wrap ((a : Int) + (k : Int)) = (a : Int) + (k : Int):=IntWalk.i64_in _ (by omega)
   have hkb : IntKind.i64.wrap ((b : Int) + (k : Int)) = (b : Int) + (k : Int):=IntWalk.i64_in _ (by omega)
   have hna : ((a : Int) + (k : Int)).toNat = a + k:=by omega
   have hnb : ((b : Int) + (k : Int)).toNat = b + k:=by omega
   have hbk : b + k < n:=by omega
   have hak : a + k < n:=by omega
   go_wp2_with fail
   refine wp_region_pre 21 [(4,.slice (some ⟨g,0,none⟩) n c),(5,.int .i64 (b : Int)),(6,.int .i64 (k : Int)),(7,.int .i64 ((b : Int) + (k : Int)))] (fun ix vals v w1 => match ix with | 0 => v = .slice (some ⟨g,0,none⟩) n c | 1 => v = .int .i64 (a : Int) | 2 => v = .int .i64 (k : Int) | 3 => v = .int .i64 ((a : Int) + (k : Int)) | 4 => v = .slice (some ⟨g,0,none⟩) n c | 5 => v = .int .i64 (b : Int) | 6 => v = .int .i64 (k : Int) | 7 => v = .int .i64 ((b : Int) + (k : Int)) | 8 => v = .slice (some ⟨g,0,none⟩) n c | 9 => v = .int .i64 (b : Int) | 10 => v = .int .i64 (k : Int) | 11 => v = .int .i64 ((b : Int) + (k : Int)) | 12 => v = .pointer (some ⟨g,(b + k) * 6,none⟩) | 13 => v = .agg VY | 14 => v = .slice (some ⟨g,0,none⟩) n c | 15 => v = .int .i64 (a : Int) | 16 => v = .int .i64 (k : Int) | 17 => v = .int .i64 ((a : Int) + (k : Int)) | 18 => v = .pointer (some ⟨g,(a + k) * 6,none⟩) | 19 => v = .agg VX | _ => v = .pointer (some ⟨g,(a + k) * 6,none⟩)) (by kernel_rfl) (by kernel_rfl) (by kernel_rfl) (by kernel_rfl) (by kernel_rfl) ?_ ?_ ?_ ?_ ?_ ?_
   ·refine ⟨⟨_,rfl,by kernel_rfl,by kernel_rfl,yields_move rfl rfl rfl⟩,⟨_,rfl,by kernel_rfl,by kernel_rfl,yields_move rfl rfl rfl⟩,⟨_,rfl,by kernel_rfl,by kernel_rfl,yields_move rfl rfl rfl⟩,⟨_,rfl,by kernel_rfl,by kernel_rfl,yields_add rfl rfl rfl rfl hkb⟩,trivial⟩
   ·intro j hj vals w1
    simp only [List.map_cons,List.map_nil,List.mem_cons,List.not_mem_nil,or_false] at hj
    rcases hj with rfl | rfl | rfl | rfl <;> rfl
   ·intro ix vals v w1 w2 hi hr hx; exact hr
   ·intro ix vals vals_ v w1 hi hv hr
    exact hr
   ·refine ⟨?_,?_,?_,?_,?_,?_,?_,?_,?_,?_,?_,?_,?_,?_,?_,?_,?_,?_,?_,?_,?_,trivial⟩
    ·intro vals w1 hx hd ha
     clear hd ha
     simp only [Lf]
     go_wp2
     exact q_
    ·intro vals w1 hx hd ha
     clear hd ha
     simp only [Lf,dstAt,Act.put,FR_]
     go_wp2
     exact q_
    ·intro vals w1 hx hd ha
     clear hd ha
     simp only [Lf,dstAt,Act.put,FR_]
     go_wp2
     exact q_
    ·intro vals w1 hx hd ha
     have e1 : vals 1 = .int .i64 (a : Int):=hd 1 (by decide)
     have e2 : vals 2 = .int .i64 (k : Int):=hd 2 (by decide)
     clear hd ha
     simp only [Lf,dstAt,Act.put,FR_,e1,e2]
     clear e1 e2
     go_wp2
     exact q_
    ·intro vals w1 hx hd ha
     clear hd ha
     simp only [Lf,dstAt,Act.put,FR_]
     go_wp2
     exact q_
    ·intro vals w1 hx hd ha
     clear hd ha
     simp only [Lf,dstAt,Act.put,FR_]
     go_wp2
     exact q_
    ·intro vals w1 hx hd ha
     clear hd ha
     simp only [Lf,dstAt,Act.put,FR_]
     go_wp2
     exact q_
    ·intro vals w1 hx hd ha
     have e5 : vals 5 = .int .i64 (b : Int):=hd 5 (by decide)
     have e6 : vals 6 = .int .i64 (k : Int):=hd 6 (by decide)
     clear hd ha
     simp only [Lf,dstAt,Act.put,FR_,e5,e6]
     clear e5 e6
     go_wp2
     exact q_
    ·intro vals w1 hx hd ha
     clear hd ha
     simp only [Lf,dstAt,Act.put,FR_]
     go_wp2
     exact q_
    ·intro vals w1 hx hd ha
     clear hd ha
     simp only [Lf,dstAt,Act.put,FR_]
     go_wp2
     exact q_
    ·intro vals w1 hx hd ha
     clear hd ha
     simp only [Lf,dstAt,Act.put,FR_]
     go_wp2
     exact q_
    ·intro vals w1 hx hd ha
     have e9 : vals 9 = .int .i64 (b : Int):=hd 9 (by decide)
     have e10 : vals 10 = .int .i64 (k : Int):=hd 10 (by decide)
     clear hd ha
     simp only [Lf,dstAt,Act.put,FR_,e9,e10]
     clear e9 e10
     go_wp2
     exact q_
    ·intro vals w1 hx hd ha
     have e8 : vals 8 = .slice (some ⟨g,0,none⟩) n c:=hd 8 (by decide)
     have e11 : vals 11 = .int .i64 ((b : Int) + (k : Int)):=hd 11 (by decide)
     clear hd ha
     simp only [Lf,dstAt,Act.put,FR_,e8,e11]
     clear e8 e11
     go_wp2
     exact q_
    ·intro vals w1 hx hd ha
     have e12 : vals 12 = .pointer (some ⟨g,(b + k) * 6,none⟩):=hd 12 (by decide)
     clear hd ha
     simp only [Lf,dstAt,Act.put,FR_,e12]
     clear e12
     refine wpList_load_st rfl _ _ rfl g ((b + k) * 6) rfl VY (pasCells y) HY.out _ (RA.range2 hY_ hx.undrew) Tryz.underlying75 rfl pas_size ?_
     go_wp2
     exact q_
    ·intro vals w1 hx hd ha
     clear hd ha
     simp only [Lf,dstAt,Act.put,FR_]
     go_wp2
     exact q_
    ·intro vals w1 hx hd ha
     clear hd ha
     simp only [Lf,dstAt,Act.put,FR_]
     go_wp2
     exact q_
    ·intro vals w1 hx hd ha
     clear hd ha
     simp only [Lf,dstAt,Act.put,FR_]
     go_wp2
     exact q_
    ·intro vals w1 hx hd ha
     have e15 : vals 15 = .int .i64 (a : Int):=hd 15 (by decide)
     have e16 : vals 16 = .int .i64 (k : Int):=hd 16 (by decide)
     clear hd ha
     simp only [Lf,dstAt,Act.put,FR_,e15,e16]
     clear e15 e16
     go_wp2
     exact q_
    ·intro vals w1 hx hd ha
     have e14 : vals 14 = .slice (some ⟨g,0,none⟩) n c:=hd 14 (by decide)
     have e17 : vals 17 = .int .i64 ((a : Int) + (k : Int)):=hd 17 (by decide)
     clear hd ha
     simp only [Lf,dstAt,Act.put,FR_,e14,e17]
     clear e14 e17
     go_wp2
     exact q_
    ·intro vals w1 hx hd ha
     have e18 : vals 18 = .pointer (some ⟨g,(a + k) * 6,none⟩):=hd 18 (by decide)
     clear hd ha
     simp only [Lf,dstAt,Act.put,FR_,e18]
     clear e18
     refine wpList_load_st rfl _ _ rfl g ((a + k) * 6) rfl VX (pasCells x) HX.out _ (RA.range2 hX_ hx.undrew) Tryz.underlying75 rfl pas_size ?_
     go_wp2
     exact q_
    ·intro vals w1 hx hd ha
     have e0 : vals 0 = .slice (some ⟨g,0,none⟩) n c:=hd 0 (by decide)
     have e1 : vals 1 = .int .i64 (a : Int):=hd 1 (by decide)
     have e2 : vals 2 = .int .i64 (k : Int):=hd 2 (by decide)
     have e3 : vals 3 = .int .i64 ((a : Int) + (k : Int)):=hd 3 (by decide)
     have e8 : vals 8 = .slice (some ⟨g,0,none⟩) n c:=hd 8 (by decide)
     have e9 : vals 9 = .int .i64 (b : Int):=hd 9 (by decide)
     have e10 : vals 10 = .int .i64 (k : Int):=hd 10 (by decide)
     have e11 : vals 11 = .int .i64 ((b : Int) + (k : Int)):=hd 11 (by decide)
     have e12 : vals 12 = .pointer (some ⟨g,(b + k) * 6,none⟩):=hd 12 (by decide)
     have e13 : vals 13 = .agg VY:=hd 13 (by decide)
     have e19 : vals 19 = .agg VX:=hd 19 (by decide)
     clear hd ha
     simp only [Lf,dstAt,Act.put,FR_,e0,e1,e2,e3,e8,e9,e10,e11,e12,e13,e19]
     clear e0 e1 e2 e3 e8 e9 e10 e11 e12 e13 e19
     go_wp2
     exact q_
   intro vals w6 hx6 hf
   have e4 : vals 4 = .slice (some ⟨g,0,none⟩) n c:=hf 4 (by omega)
   have e7 : vals 7 = .int .i64 ((b : Int) + (k : Int)):=hf 7 (by omega)
   have e13 : vals 13 = .agg VY:=hf 13 (by omega)
   have e19 : vals 19 = .agg VX:=hf 19 (by omega)
   have e20 : vals 20 = .pointer (some ⟨g,(a + k) * 6,none⟩):=hf 20 (by omega)
   clear hf
   have hx6:=hx6.undrew
   have hR6:=HROW.out.ext hx6
   obtain ⟨hs1,hg1⟩:=hR6.store pas_len Q1.out y
   have ht1:=hR6.there pas_len Q1.out
   have hl1 : b + k < (((P ++ Y1) ++ x :: ((X3 ++ M ++ X1) ++ y :: (Y3 ++ S))).set (a + k) y).length:=by rw [List.length_set]; exact Q2.out
   obtain ⟨hs2,hg2⟩:=hs1.store pas_len hl1 x
   have ht2:=hs1.there pas_len hl1
   rw [list_swap (P ++ Y1) (X3 ++ M ++ X1) (Y3 ++ S) x y (a + k) (b + k) I1.out I2.out] at hs2
   have hG6 : w.grownBy ((w6.setCells g ((a + k) * 6) (pasCells y)).setCells g ((b + k) * 6) (pasCells x)) (some g):=gb_trans (gb_trans HG.out (grown_ext hx6)) (gb_trans hg1 hg2)
   have HT1:=Lib.hid ht1
   have HT2:=Lib.hid ht2
   have HS2:=Lib.hid hs2
   have HG6:=Lib.hid hG6
   clear ht1 ht2 hs1 hg1 hs2 hg2 hG6 hR6 hl1 hX_ hY_ hx6
   refine tailF 21 _ _ 2 (by kernel_rfl) rfl ?_ (fun a w q => tailF 22 _ _ 1 (by kernel_rfl) rfl q (fun a w q => tail1 23 _ (by kernel_rfl) (by kernel_rfl) rfl q))
   simp only [Lf,dstAt,Act.put,FR_]
   rw [e4,e7,e13,e19,e20]
   clear e4 e7 e13 e19 e20
   refine wpList_store_st rfl _ _ _ rfl g ((a + k) * 6) VY (pasCells y) HY.out rfl rfl HT1.out pas_size (by simp [pasCells,Value.oneCell']) ?_
   go_wp2_with (refine wpList_store_st rfl _ _ _ rfl g ((b + k) * 6) VX (pasCells x) HX.out rfl rfl HT2.out pas_size (by simp [pasCells,Value.oneCell']) ?_)
   refine Qn_of ?_
   generalize (w6.setCells g ((a + k) * 6) (pasCells y)).setCells g ((b + k) * 6) (pasCells x) = w8 at HS2 HG6 ⊢
   have HRN : Hid (RowS pasCells 6 base 75 g n c w8 (P ++ (Y1 ++ [y]) ++ X3 ++ M ++ (X1 ++ [x]) ++ Y3 ++ S)):=Lib.hid (by simpa using HS2.out)
   have HSN:=HS.out
   have HSM : Hid (X = (X1 ++ [x]) ++ X3 ∧ Y = (Y1 ++ [y]) ++ Y3 ∧ (X1 ++ [x]).length = k + 1 ∧ (Y1 ++ [y]).length = k + 1):=Lib.hid (by obtain ⟨h1,h2,h3,h4⟩:=HSN; simp [h1,h2,h3,h4])
   clear HS HSN HS2 HROW HT1 HT2
   go_wp2
   go_roundw
   case rel => exact ⟨k + 1,X1 ++ [x],X3,Y1 ++ [y],Y3,by omega,by go_num,HSM,HRN,HG6⟩
   case measure => simp [intOf]; omega
  ·have hfin : RowS pasCells 6 base 75 g n c wi (P ++ Y ++ M ++ X ++ S):=by
    obtain ⟨h1,h2,h3,h4⟩:=HS.out
    have hx0 : X2 = []:=List.eq_nil_of_length_eq_zero (by have:=HD.out; rw [h1] at this; simp at this; omega)
    have hy0 : Y2 = []:=List.eq_nil_of_length_eq_zero (by have:=HD2.out; rw [h2] at this; simp at this; omega)
    have h:=HR.out
    rw [hx0,hy0] at h
    rw [h1,h2,hx0,hy0]
    simpa using h
   have HF:=Lib.hid hfin
   clear hfin
   go_wp2
   go_end0
   exact ⟨rfl,HF.out,HG.out⟩
end Go.Proofs.YtjidhhfabfnhnaaGreat
namespace Go.Proofs.YtjidhhfabfnhnaaGreat
open Go.RowKit
set_option maxHeartbeats 4000000 in
theorem rotate_any (K : Nat) (caps : Array Value) (base g n c a m b : Nat) (P X Y S : List Pas) (w : World) (ha : a = P.length) (hm : m = a + X.length) (hb : b = m + Y.length) (hx0 : 0 < X.length) (hy0 : 0 < Y.length) (hn : n ≤ 1000000) (hr : RowS pasCells 6 base 75 g n c w (P ++ X ++ Y ++ S)) :
  Calls Tryz.prog 164 #[.slice (some ⟨g,0,none⟩) n c,.int .i64 (a : Int),.int .i64 (m : Int),.int .i64 (b : Int),.func (.func K) #[] caps] w
   fun e w' => e = .returned (.tuple #[]) ∧ RowS pasCells 6 base 75 g n c w' (P ++ Y ++ X ++ S) ∧ w.grownBy w' (some g):=by
 have hln:=hr.1
 have hbn : b ≤ n:=by simp at hln; omega
 obtain ⟨T,hT⟩ : ∃ T,T = P ++ Y ++ X ++ S:=⟨_,rfl⟩
 rw [← hT]
 have HS0 : Hid (P.length + (m - a) = m ∧ X.length = m - a ∧ Y.length = b - m ∧ P ++ Y ++ X ++ S = T ∧ P.length + (m - a) + (b - m) + S.length = n):=Lib.hid ⟨by omega,by omega,by omega,hT.symm,by simp at hln; omega⟩
 have HR0:=Lib.hid hr
 have HG0:=Lib.hid (grown_refl w (some g))
 have hm2 : a < m:=by omega
 have hb2 : m < b:=by omega
 clear hr hln hT ha hm hb hx0 hy0
 have hwa : IntKind.i64.wrap ((m : Int) - (a : Int)) = (m : Int) - (a : Int):=IntWalk.i64_in _ (by omega)
 have hwb : IntKind.i64.wrap ((b : Int) - (m : Int)) = (b : Int) - (m : Int):=IntWalk.i64_in _ (by omega)
 go_enter Tryz.func164,Tryz.ntmps164
 go_wp2
 go_loopw [10,11] (fun x y wr => ∃ (i j : Nat) (P' X' Y' S' : List Pas),0 < i ∧ 0 < j ∧ x = .int .i64 i ∧ y = .int .i64 j ∧ Hid (P'.length + i = m ∧ X'.length = i ∧ Y'.length = j ∧ P' ++ Y' ++ X' ++ S' = T ∧ P'.length + i + j + S'.length = n) ∧ Hid (RowS pasCells 6 base 75 g n c wr (P' ++ X' ++ Y' ++ S')) ∧ Hid (w.grownBy wr (some g))) (fun x y _ => (intOf x).toNat + (intOf y).toNat)
 case atStart => exact ⟨m - a,b - m,P,X,Y,S,by omega,by omega,by rw [show ((m - a : Nat) : Int) = (m : Int) - (a : Int) by omega],by rw [show ((b - m : Nat) : Int) = (b : Int) - (m : Int) by omega],HS0,HR0,HG0⟩
 case round =>
  clear HR0 HG0 HS0 hwa hwb
  obtain ⟨i,j,P',X',Y',S',hi0,hj0,rfl,rfl,HS,HR,HG⟩:=hrel
  obtain ⟨wi,hwi⟩ : ∃ wi : World,wi = wr:=⟨_,rfl⟩
  rw [← hwi] at HR HG ⊢
  clear hwi
  have him : i ≤ m:=by have:=(HS.out).1; omega
  have hjn : m + j ≤ n:=by have h:=HS.out; omega
  have hw1 : IntKind.i64.wrap ((m : Int) - (i : Int)) = (m : Int) - (i : Int):=IntWalk.i64_in _ (by omega)
  have hw2 : IntKind.i64.wrap ((m : Int) + (j : Int)) = (m : Int) + (j : Int):=IntWalk.i64_in _ (by omega)
  have hw3 : IntKind.i64.wrap ((m : Int) + (j : Int) - (i : Int)) = (m : Int) + (j : Int) - (i : Int):=IntWalk.i64_in _ (by omega)
  have hw4 : IntKind.i64.wrap ((i : Int) - (j : Int)) = (i : Int) - (j : Int):=IntWalk.i64_in _ (by omega)
  have hw5 : IntKind.i64.wrap ((j : Int) - (i : Int)) = (j : Int) - (i : Int):=IntWalk.i64_in _ (by omega)
  by_cases hgt : j < i
  ·skip
   have hlt2 : decide ((j : Int) < (i : Int)) = true:=by simp; omega
   have hne : ((i : Int) != (j : Int)) = true:=by simp; omega
   obtain ⟨X1,X2,hX,hX1⟩:=list_cut X' j (by have:=(HS.out).2.1; omega)
   have hrow : RowS pasCells 6 base 75 g n c wi (P' ++ X1 ++ X2 ++ Y' ++ S'):=by have h:=HR.out; rw [hX] at h; simpa using h
   have hsw:=swap_any K caps base g n c (m - i) m j P' X1 X2 Y' S' wi (by have:=(HS.out).1; omega) (by have h1:=HS.out; rw [hX] at h1; simp at h1; omega) hX1.symm (HS.out).2.2.1.symm hn hrow
   rw [show ((m - i : Nat) : Int) = (m : Int) - (i : Int) by omega] at hsw
   have hS2 : (P' ++ Y').length + (i - j) = m ∧ X2.length = i - j ∧ X1.length = j ∧ (P' ++ Y') ++ X1 ++ X2 ++ S' = T ∧ (P' ++ Y').length + (i - j) + j + S'.length = n:=by
    obtain ⟨h1,h2,h3,h4,h5⟩:=HS.out
    rw [hX] at h2 h4
    simp at h2 h4 ⊢
    exact ⟨by omega,by omega,hX1,h4,by omega⟩
   have HSW:=Lib.hid hsw
   have HS2:=Lib.hid hS2
   clear hsw hrow hS2 HR HS hX hX1
   go_wp2_with fail
   refine HSW.out.mono ?_
   rintro e w2 ⟨rfl,h1,h2⟩
   have HRN : Hid (RowS pasCells 6 base 75 g n c w2 ((P' ++ Y') ++ X2 ++ X1 ++ S')):=Lib.hid (by simpa using h1)
   have HGN:=Lib.hid (gb_trans HG.out h2)
   clear h1 h2 HSW HG
   go_wp2
   go_roundw
   case rel => exact ⟨i - j,j,P' ++ Y',X2,X1,S',by omega,by omega,by rw [show ((i - j : Nat) : Int) = (i : Int) - (j : Int) by omega],rfl,HS2,HRN,HGN⟩
   case measure => simp [intOf]; omega
  by_cases hlt : i < j
  ·skip
   have hlt2 : decide ((j : Int) < (i : Int)) = false:=by simp; omega
   have hne : ((i : Int) != (j : Int)) = true:=by simp; omega
   obtain ⟨Y1,Y2,hY,hY1⟩:=list_cut Y' (j - i) (by have:=(HS.out).2.2.1; omega)
   have hY2 : i = Y2.length:=by have h1:=(HS.out).2.2.1; rw [hY] at h1; simp at h1; omega
   have hrow : RowS pasCells 6 base 75 g n c wi (P' ++ X' ++ Y1 ++ Y2 ++ S'):=by have h:=HR.out; rw [hY] at h; simpa using h
   have hsw:=swap_any K caps base g n c (m - i) (m + j - i) i P' X' Y1 Y2 S' wi (by have:=(HS.out).1; omega) (by have h1:=HS.out; omega) (HS.out).2.1.symm hY2 hn hrow
   rw [show ((m - i : Nat) : Int) = (m : Int) - (i : Int) by omega,show ((m + j - i : Nat) : Int) = (m : Int) + (j : Int) - (i : Int) by omega] at hsw
   have hS2 : P'.length + i = m ∧ Y2.length = i ∧ Y1.length = j - i ∧ P' ++ Y1 ++ Y2 ++ (X' ++ S') = T ∧ P'.length + i + (j - i) + (X' ++ S').length = n:=by
    obtain ⟨h1,h2,h3,h4,h5⟩:=HS.out
    rw [hY] at h4
    simp at h4 ⊢
    exact ⟨h1,hY2.symm,hY1,h4,by omega⟩
   have HSW:=Lib.hid hsw
   have HS2:=Lib.hid hS2
   clear hsw hrow hS2 HR HS hY hY1 hY2
   go_wp2_with fail
   refine HSW.out.mono ?_
   rintro e w2 ⟨rfl,h1,h2⟩
   have HRN : Hid (RowS pasCells 6 base 75 g n c w2 (P' ++ Y2 ++ Y1 ++ (X' ++ S'))):=Lib.hid (by simpa using h1)
   have HGN:=Lib.hid (gb_trans HG.out h2)
   clear h1 h2 HSW HG
   go_wp2
   go_roundw
   case rel => exact ⟨i,j - i,P',Y2,Y1,X' ++ S',by omega,by omega,rfl,by rw [show ((j - i : Nat) : Int) = (j : Int) - (i : Int) by omega],HS2,HRN,HGN⟩
   case measure => simp [intOf]; omega
  ·obtain rfl : i = j:=by omega
   have hne : ((i : Int) != (i : Int)) = false:=by simp
   have hrow : RowS pasCells 6 base 75 g n c wi (P' ++ X' ++ [] ++ Y' ++ S'):=by simpa using HR.out
   have hsw:=swap_any K caps base g n c (m - i) m i P' X' [] Y' S' wi (by have:=(HS.out).1; omega) (by have h:=HS.out; simp; omega) (HS.out).2.1.symm (HS.out).2.2.1.symm hn hrow
   rw [show ((m - i : Nat) : Int) = (m : Int) - (i : Int) by omega] at hsw
   have HSW:=Lib.hid hsw
   clear hsw hrow HR
   go_wp2_with fail
   refine HSW.out.mono ?_
   rintro e w2 ⟨rfl,h1,h2⟩
   have HRN : Hid (RowS pasCells 6 base 75 g n c w2 (T)):=Lib.hid (by rw [← (HS.out).2.2.2.1]; simpa using h1)
   have HGN:=Lib.hid (gb_trans HG.out h2)
   clear h1 h2
   go_wp2
   go_end0
   exact ⟨rfl,HRN.out,HGN.out⟩
end Go.Proofs.YtjidhhfabfnhnaaGreat
namespace Go.Proofs.YtjidhhfabfnhnaaGreat
open Go.RowKit
def outChk (ops : Array Oper) (t : Nat) : Nat → Bool
 | 0 => true
 | i + 1 => !(dstAt ops i == some t) && outChk ops t i
theorem outChk_spec {ops : Array Oper} {t : Nat} : ∀ {i : Nat},outChk ops t i = true → ∀ j,j < i → dstAt ops j ≠ some t
 | 0,_,j,hj => by omega
 | i + 1,h,j,hj => by
  simp only [outChk,Bool.and_eq_true,Bool.not_eq_true'] at h
  by_cases e : j = i
  ·subst e
   intro e2
   rw [e2] at h
   simp at h
  ·exact outChk_spec h.2 j (by omega)
def inChk (ops : Array Oper) (t j : Nat) : Nat → Bool
 | 0 => true
 | i + 1 => (decide (i ≤ j) || !(dstAt ops i == some t)) && inChk ops t j i
theorem inChk_spec {ops : Array Oper} {t j : Nat} : ∀ {i : Nat},inChk ops t j i = true → ∀ k,j < k → k < i → dstAt ops k ≠ some t
 | 0,_,k,_,hk => by omega
 | i + 1,h,k,h1,h2 => by
  simp only [inChk,Bool.and_eq_true,Bool.or_eq_true,Bool.not_eq_true',decide_eq_true_eq] at h
  by_cases e : k = i
  ·subst e
   intro e2
   rw [e2] at h
   rcases h.1 with h | h
   ·omega
   ·simp at h
  ·exact inChk_spec h.2 k h1 (by omega)
section
variable {P : Program} {ops : Array Oper} {a0 : Act} {vals : Nat → Value}
theorem lf_out {i t : Nat} {v : Value} (h : outChk ops t i = true) (hv : a0.tmps[t]? = some v) : (Lf ops a0 vals i).tmps[t]? = some v:=(Lf_outer vals i t (outChk_spec h)).trans hv
theorem lf_in {i t : Nat} {v : Value} (j : Nat) (hj : decide (j < i) = true) (hd : dstAt ops j = some t) (hdist : inChk ops t j i = true) (ht : decide (t < a0.tmps.size) = true) (hv : vals j = v) : (Lf ops a0 vals i).tmps[t]? = some v:=by
 subst hv
 exact Lf_inner vals i j t (of_decide_eq_true hj) hd (inChk_spec hdist) (of_decide_eq_true ht)
def look (L : List (Nat × Value)) (t : Nat) : Option Value:=match L with
 | [] => none
 | p :: r => if p.1 == t then some p.2 else look r t
def AllAt (A : Act) : List (Nat × Value) → Prop
 | [] => True
 | p :: r => A.tmps[p.1]? = some p.2 ∧ AllAt A r
theorem look_at {A : Act} : ∀ {L : List (Nat × Value)} {t : Nat} {v : Value},AllAt A L → look L t = some v → A.tmps[t]? = some v
 | [],_,_,_,h => by cases h
 | p :: r,t,v,⟨h1,h2⟩,h => by
  unfold look at h
  split at h
  ·rename_i e
   have e : p.1 = t:=by simpa using e
   subst e
   rw [h1,h]
  ·exact look_at h2 h
abbrev tiny0 : Act:=⟨#[undef],[]⟩
def rho (L : List (Nat × Value)) (x : Operand) : Value:=match x with
 | .tmp t => (look L t).getD undef
 | x => tiny0.eval x
def covers (L : List (Nat × Value)) (o : Oper) : Bool:=o.op.operands.all fun x => match x with | .tmp t => (look L t).isSome | _ => true
def wantV (v : Option Value) (b : Bool) : Bool:=match v with | some (.bool c) => c == b | _ => false
def wantL (L : List (Nat × Value)) (ops : Array Oper) (o : Oper) : Option Bool:=match o.guard with
 | none => some true
 | some (g,b) => match dstAt ops g with
  | some t => (match look L t with | some v => some (wantV (some v) b) | none => none)
  | none => none
theorem want_of {A : Act} {L : List (Nat × Value)} {o : Oper} {b : Bool} (hL : AllAt A L) (h : wantL L ops o = some b) : Region.wanted o (yielded ops A.tmps) = b:=by
 unfold wantL at h
 unfold Region.wanted
 cases hg : o.guard with
 | none => rw [hg] at h; simpa using h
 | some gb =>
  obtain ⟨g,c⟩:=gb
  rw [hg] at h
  simp only at h ⊢
  unfold dstAt at h
  cases ht : (ops[g]?).bind (·.dst) with
  | none => rw [ht] at h; simp at h
  | some t =>
   rw [ht] at h
   simp only at h
   cases hl : look L t with
   | none => rw [hl] at h; simp at h
   | some v =>
    rw [hl] at h
    simp only [Option.some.injEq] at h
    rw [← h]
    unfold yielded
    rw [ht,Option.bind_some,look_at hL hl]
    cases v <;> simp [wantV]
theorem put_dst {A : Act} {t : Tmp} {v : Value} (h : t < A.tmps.size) : (A.put (some t) v).tmps.getD t undef = v:=by simp [Act.put,h]
theorem tiny {i : Nat} {o : Oper} {R : Value → World → Prop} {w w0 : World} (L : List (Nat × Value)) (o' : Oper) (t : Nat) (ht : tameOp o = true) (hL : AllAt (Lf ops a0 vals i) L) (hc : covers L o = true) (hw : wantL L ops o = some true) (he : execOp (rho L) o = execOp tiny0.eval o')
  (hd : o.dst = some t) (htl : decide (t < a0.tmps.size) = true) (hd' : o'.dst = some 0) (hg' : o'.guard = none) (h : wpList P #[] (Qo tiny0 R o' w0) [o'] tiny0 w) : wpList P ops (Qo a0 R o w0) [o] (Lf ops a0 vals i) w:=by
 have htl:=of_decide_eq_true htl
 rw [← Lf_size (ops:=ops) (vals:=vals) i] at htl
 have hdf:=Lf_defers (ops:=ops) (a0:=a0) vals i
 generalize Lf ops a0 vals i = A at hL htl hdf ⊢
 have hs : ∀ cs b,o.op ≠ .select cs b:=fun cs b e => by simp [tameOp,e] at ht
 have he1 : execOp A.eval o = execOp (rho L) o:=execOp_congr o hs (fun x hx => by
  have hx2:=Array.all_eq_true'.1 hc x hx
  cases x with
  | tmp k =>
   simp only at hx2
   obtain ⟨v,hv⟩:=Option.isSome_iff_exists.1 hx2
   have:=look_at hL hv
   simp only [Act.eval,rho,Array.getD_eq_getD_getElem?,this,hv]
  | _ => rfl)
 have hwd:=want_of (ops:=ops) hL hw
 have hw' : Region.wanted o' (yielded #[] tiny0.tmps) = true:=by simp [Region.wanted,hg']
 have key : ∀ v w',Qo tiny0 R o' w0 .normal (tiny0.put o'.dst v) w' → Qo a0 R o w0 .normal (A.put o.dst v) w':=by
  rintro v w' ⟨_,h2,h3⟩
  rw [hd'] at h3
  rw [hd]
  refine ⟨hdf,h2,?_⟩
  rw [hd]
  simp only [put_dst htl]
  have h4 : (tiny0.put (some 0) v).tmps.getD 0 undef = v:=put_dst (by simp)
  simp only [h4] at h3
  exact h3
 unfold wpList at h ⊢
 rw [if_pos hw'] at h
 rw [if_pos hwd]
 rcases h with h | h
 ·refine .inl ?_
  unfold Oper.wp at h ⊢
  rw [he1,he]
  generalize (execOp tiny0.eval o').run P w = r at h
  cases r with
  | ok n w' =>
   cases n <;> simp only [Oper.upon] at h ⊢
   case value v => unfold wpList at h ⊢; exact key _ _ h
   case skip => unfold wpList at h ⊢; exact key _ _ h
   case defer d =>
    unfold wpList at h
    have:=h.1
    rw [hd'] at this
    simp [Act.put] at this
   case enter f args =>
    refine Calls.mono h fun e w'' hq => ?_
    cases e with
    | returned v => unfold wpList at hq ⊢; exact key _ _ hq
    | panicked ch => exact absurd hq (by simp [Qo])
    | outgrown => exact absurd hq (Qo_notOut _ _ _ _)
   case row row args =>
    exact Rows.mono h fun v w'' hq => by unfold wpList at hq ⊢; exact key _ _ hq
   all_goals first | exact h | exact h.elim
  | halt x w' => cases x <;> simp only [Oper.upon] at h ⊢ <;> first | exact h.elim | exact absurd h (by simp [Qo])
 ·exact absurd h.2 (Qo_notOut _ _ _ _)
theorem tiny_no {i : Nat} {o : Oper} {R : Value → World → Prop} {w : World} (L : List (Nat × Value)) (hL : AllAt (Lf ops a0 vals i) L) (hw : wantL L ops o = some false) (t : Nat) (hd : o.dst = some t) (htl : decide (t < a0.tmps.size) = true) (hr : R undef w) :
  wpList P ops (Qo a0 R o w) [o] (Lf ops a0 vals i) w:=by
 have htl:=of_decide_eq_true htl
 rw [← Lf_size (ops:=ops) (vals:=vals) i] at htl
 have hdf:=Lf_defers (ops:=ops) (a0:=a0) vals i
 generalize Lf ops a0 vals i = A at hL htl hdf ⊢
 have hwd:=want_of (ops:=ops) hL hw
 unfold wpList
 rw [if_neg (by rw [hwd]; simp)]
 unfold wpList
 refine ⟨by rw [hd]; exact hdf,Ext.refl _,?_⟩
 rw [hd]
 simp only [put_dst htl]
 exact hr
end
end Go.Proofs.YtjidhhfabfnhnaaGreat
namespace Go.Proofs.YtjidhhfabfnhnaaGreat
open Go.RowKit
def dsAt (ds : List (Option Tmp)) (j : Nat) : Option Tmp:=(ds[j]?).bind id
def outOK (ds : List (Option Tmp)) (t : Nat) : Nat → Bool
 | 0 => true
 | i + 1 => !(dsAt ds i == some t) && outOK ds t i
def inOK (ds : List (Option Tmp)) (t j : Nat) : Nat → Bool
 | 0 => true
 | i + 1 => (decide (i ≤ j) || !(dsAt ds i == some t)) && inOK ds t j i
section
variable {P : Program} {ops : Array Oper} {a0 : Act} {vals : Nat → Value} {ds : List (Option Tmp)}
theorem ds_at (h : ops.toList.map (·.dst) = ds) (j : Nat) : dstAt ops j = dsAt ds j:=by
 subst h
 unfold dstAt dsAt
 rw [List.getElem?_map,Array.getElem?_toList]
 cases ops[j]? <;> rfl
theorem outOK_chk (h : ops.toList.map (·.dst) = ds) (t : Nat) : ∀ i,outOK ds t i = outChk ops t i
 | 0 => rfl
 | i + 1 => by rw [outOK,outChk,ds_at h,outOK_chk h t i]
theorem inOK_chk (h : ops.toList.map (·.dst) = ds) (t j : Nat) : ∀ i,inOK ds t j i = inChk ops t j i
 | 0 => rfl
 | i + 1 => by rw [inOK,inChk,ds_at h,inOK_chk h t j i]
inductive SlotV (ds : List (Option Tmp)) (outs : List (Nat × Value)) (N : Nat) (vals : Nat → Value) (i : Nat) : Nat → Value → Prop
 | inn {t : Nat} {v : Value} (j : Nat) (h : (decide (j < i) && (dsAt ds j == some t) && inOK ds t j i && decide (t < N)) = true) (hv : vals j = v) : SlotV ds outs N vals i t v
 | out {t : Nat} {v : Value} (h : outOK ds t i = true) (hv : look outs t = some v) : SlotV ds outs N vals i t v
def AllV (ds : List (Option Tmp)) (outs : List (Nat × Value)) (N : Nat) (vals : Nat → Value) (i : Nat) : List (Nat × Value) → Prop
 | [] => True
 | p :: r => SlotV ds outs N vals i p.1 p.2 ∧ AllV ds outs N vals i r
theorem allV_at {outs : List (Nat × Value)} {N i : Nat} (h : ops.toList.map (·.dst) = ds) (hN : a0.tmps.size = N) (ho : AllAt a0 outs) : ∀ {L : List (Nat × Value)},AllV ds outs N vals i L → AllAt (Lf ops a0 vals i) L
 | [],_ => trivial
 | p :: r,⟨h1,h2⟩ => by
  refine ⟨?_,allV_at h hN ho h2⟩
  cases h1 with
  | inn j hj hv =>
   simp only [Bool.and_eq_true] at hj
   obtain ⟨⟨⟨j1,j2⟩,j3⟩,j4⟩:=hj
   exact lf_in j j1 (by rw [ds_at h]; simpa using j2) (by rw [← inOK_chk h]; exact j3) (by rw [hN]; exact j4) hv
  | out hj hv => exact lf_out (by rw [← outOK_chk h]; exact hj) (look_at ho hv)
def wantD (L : List (Nat × Value)) (ds : List (Option Tmp)) (o : Oper) : Option Bool:=match o.guard with
 | none => some true
 | some (g,b) => match dsAt ds g with
  | some t => (match look L t with | some v => some (wantV (some v) b) | none => none)
  | none => none
theorem wantD_eq (h : ops.toList.map (·.dst) = ds) (L : List (Nat × Value)) (o : Oper) : wantD L ds o = wantL L ops o:=by
 unfold wantD wantL
 cases o.guard with
 | none => rfl
 | some gb => simp only [ds_at h] <;> rfl
inductive Small (P : Program) (ds : List (Option Tmp)) (outs : List (Nat × Value)) (N : Nat) (vals : Nat → Value) (R : Value → World → Prop) (i : Nat) (o : Oper) (w : World) : Prop
 | run (L : List (Nat × Value)) (o' : Oper) (t : Nat) (hL : AllV ds outs N vals i L) (hc : (tameOp o && covers L o && decide (t < N)) = true) (hw : wantD L ds o = some true) (he : execOp (rho L) o = execOp tiny0.eval o')
   (hd : o.dst = some t) (hd' : o'.dst = some 0) (hg' : o'.guard = none) (h : wpList P #[] (Qo tiny0 R o' w) [o'] tiny0 w) : Small P ds outs N vals R i o w
 | no (L : List (Nat × Value)) (t : Nat) (hL : AllV ds outs N vals i L) (hw : wantD L ds o = some false) (hd : o.dst = some t) (ht : decide (t < N) = true) (hr : R undef w) : Small P ds outs N vals R i o w
theorem Small.r {outs : List (Nat × Value)} {N : Nat} {R : Value → World → Prop} {i : Nat} {o : Oper} {w : World} (L : List (Nat × Value)) (op : Go.Op) (ty : TypeId) (t : Nat) (hL : AllV ds outs N vals i L) (h : wpList P #[] (Qo tiny0 R ⟨some 0,op,ty,"",#[],none⟩ w) [⟨some 0,op,ty,"",#[],none⟩] tiny0 w)
  (hc : (tameOp o && covers L o && decide (t < N)) = true:=by kernel_rfl) (hw : wantD L ds o = some true:=by kernel_rfl) (he : execOp (rho L) o = execOp tiny0.eval ⟨some 0,op,ty,"",#[],none⟩:=by kernel_rfl) (hd : o.dst = some t:=by exact rfl) : Small P ds outs N vals R i o w:=.run L _ t hL hc hw he hd rfl rfl h
theorem small_obl {outs : List (Nat × Value)} {N i : Nat} {o : Oper} {R : Value → World → Prop} {w : World} (h : ops.toList.map (·.dst) = ds) (hN : a0.tmps.size = N) (ho : AllAt a0 outs) (hs : Small P ds outs N vals R i o w) : wpList P ops (Qo a0 R o w) [o] (Lf ops a0 vals i) w:=by
 cases hs with
 | run L o' t hL hc hw he hd hd' hg' hx =>
  simp only [Bool.and_eq_true] at hc
  exact tiny L o' t hc.1.1 (allV_at h hN ho hL) hc.1.2 (by rw [← wantD_eq h]; exact hw) he hd (by rw [hN]; exact hc.2) hd' hg' hx
 | no L t hL hw hd ht hr => exact tiny_no L (allV_at h hN ho hL) (by rw [← wantD_eq h]; exact hw) t hd (by rw [hN]; exact ht) hr
def OblsT (P : Program) (ds : List (Option Tmp)) (outs : List (Nat × Value)) (N : Nat) (w0 : World) (R : Nat → (Nat → Value) → Value → World → Prop) : Nat → List Oper → Prop
 | _,[] => True
 | k,o :: rest => (∀ (vals : Nat → Value) (w : World),Ext w0 w → (∀ d ∈ depsOf o,R d vals (vals d) w) → Small P ds outs N vals (R k vals) k o w) ∧ OblsT P ds outs N w0 R (k + 1) rest
theorem obls_ofT {w0 : World} {R : Nat → (Nat → Value) → Value → World → Prop} (ds : List (Option Tmp)) (outs : List (Nat × Value)) (N : Nat) (h : ops.toList.map (·.dst) = ds) (hN : a0.tmps.size = N) (ho : AllAt a0 outs) :
  ∀ {l : List Oper} {k : Nat},OblsT P ds outs N w0 R k l → Obls P ops a0 w0 R k l
 | [],_,_ => trivial
 | _ :: _,_,⟨h1,h2⟩ => ⟨fun vals w hx hd _ => small_obl h hN ho (h1 vals w hx hd),obls_ofT ds outs N h hN ho h2⟩
end
end Go.Proofs.YtjidhhfabfnhnaaGreat
