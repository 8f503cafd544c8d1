/- Lists that are valid: isList (printed by contact_a14.py). -/
import Derived.Test.YtjidhhfabfnhnaaGreatK18
import Derived.Test.YtjidhhfabfnhnaaGreatK04
namespace Go.Proofs.YtjidhhfabfnhnaaGreat
open Go.RowKit
inductive BS {α : Type} (lt : α → α → Bool) (q : Nat) : List α → List α → Prop
 | one (l : List α) : l.length ≤ q → BS lt q l (sortP lt l)
 | cons (x r c : List α) : x.length = q → BS lt q r c → BS lt q (x ++ r) (sortP lt x ++ c)
theorem BS.len {α : Type} {lt : α → α → Bool} {q : Nat} {r c : List α} (h : BS lt q r c) : c.length = r.length:=by
 induction h with
 | one l _ => exact length_sortP lt l
 | cons x r c _ _ ih => rw [List.length_append,List.length_append,length_sortP,ih]
theorem BS.nil {α : Type} {lt : α → α → Bool} {q : Nat} : BS lt q [] []:=BS.one [] (Nat.zero_le _)
theorem BS.short {α : Type} {lt : α → α → Bool} {q : Nat} {r c : List α} (h : BS lt q r c) (hl : r.length ≤ q) : c = sortP lt r:=by
 cases h with
 | one _ _ => rfl
 | cons x r c hx h2 =>
  rw [List.length_append] at hl
  have h0 : r = []:=List.eq_nil_of_length_eq_zero (by omega)
  have h1:=h2.len
  rw [h0] at h1
  have h3 : c = []:=List.eq_nil_of_length_eq_zero h1
  rw [h0,h3,List.append_nil,List.append_nil]
theorem BS.take {α : Type} {lt : α → α → Bool} {q : Nat} {r c : List α} (h : BS lt q r c) (hl : q ≤ r.length) : ∃ x r2 c2,r = x ++ r2 ∧ c = sortP lt x ++ c2 ∧ x.length = q ∧ BS lt q r2 c2:=by
 cases h with
 | one _ h1 => exact ⟨r,[],[],by simp,by simp,by omega,BS.nil⟩
 | cons x r c hx h2 => exact ⟨x,r,c,rfl,rfl,hx,h2⟩
theorem insAt_mid {α : Type} (lt : α → α → Bool) (D X R : List α) (a b : Nat) (ha : a = D.length) (hb : b = a + X.length) : insAt lt (D ++ X ++ R) a b = D ++ sortP lt X ++ R:=by
 subst hb ha
 have e1 : (D ++ X ++ R).take D.length = D:=by rw [List.append_assoc,List.take_left]
 have e2 : (D ++ X ++ R).drop D.length = X ++ R:=by rw [List.append_assoc,List.drop_left]
 have e3 : (D ++ X ++ R).drop (D.length + X.length) = R:=by rw [← List.length_append,List.drop_left]
 rw [insAt,e1,e2,e3,show D.length + X.length - D.length = X.length by omega,List.take_left]
set_option maxHeartbeats 8000000 in
set_option maxRecDepth 100000 in
theorem stable_any (K : Nat) (caps : Array Value) (cv : Pas → Pas → Int) (eg : ∀ args w,(callFunc K args).run Tryz.prog w = .ok (.enter K args) w) (hcmp : CmpC K caps cv) (hsw : SW (ltOf cv)) (base g n c : Nat) (hn : n ≤ 1000000) (l : List Pas) (w : World) (hr : RowS pasCells 6 base 75 g n c w (l)) :
  Calls Tryz.prog 106 #[.slice (some ⟨g,0,none⟩) n c,.int .i64 (n : Int),.func (.func K) #[] caps] w
   fun e w' => e = .returned (.tuple #[]) ∧ RowS pasCells 6 base 75 g n c w' (sortP (ltOf cv) l) ∧ w.grownBy w' (some g):=by
 have hln:=hr.1
 have hins:=fun a b l w h1 h2 h3 => insSort_any K caps cv eg hcmp base g n c a b l w h1 h2 h3 hn
 have hsym:=fun P A B S a m b w h1 h2 h3 h5 h6 h7 h8 h9 => sym_any K caps cv eg hcmp hsw base g n c hn (A.length + B.length) P A B S a m b w h1 h2 h3 (Nat.le_refl _) h5 h6 h7 h8 h9
 have HINS:=Lib.hid hins
 have HSYM:=Lib.hid hsym
 have HSW:=Lib.hid hsw
 have HLN:=Lib.hid hln
 have HR0 : Hid (RowS pasCells 6 base 75 g n c w ([] ++ l)):=Lib.hid hr
 have HC0 : Hid (l = [] ++ l ∧ ([] : List Pas).length = 0 ∧ ([] : List Pas).length = 0 ∧ ∀ l2 fin,BS (ltOf cv) 20 l2 fin → BS (ltOf cv) 20 ([] ++ l2) ([] ++ fin)):=Lib.hid ⟨rfl,rfl,rfl,fun _ _ h => h⟩
 have HG0:=Lib.hid (grown_refl w (some g))
 clear hr hcmp hsw hln hins hsym
 go_enter Tryz.func106,Tryz.ntmps106
 go_wp2
 go_loopw [7,8] (fun x y wr => ∃ (a : Nat) (l1 l2 dn : List Pas),a ≤ n ∧ x = .int .i64 a ∧ y = .int .i64 ((a + 20 : Nat) : Int) ∧ Hid (l = l1 ++ l2 ∧ l1.length = a ∧ dn.length = a ∧ ∀ l2 fin,BS (ltOf cv) 20 l2 fin → BS (ltOf cv) 20 (l1 ++ l2) (dn ++ fin)) ∧ Hid (RowS pasCells 6 base 75 g n c wr (dn ++ l2)) ∧ Hid (w.grownBy wr (some g))) (fun x _ _ => n - (intOf x).toNat)
 case atStart => exact ⟨0,[],l,[],Nat.zero_le _,rfl,rfl,HC0,HR0,HG0⟩
 case round =>
  clear HC0 HR0 HG0
  obtain ⟨a,l1,l2,dn,han,rfl,rfl,HC,HR,HG⟩:=hrel
  obtain ⟨wi,hwi⟩ : ∃ wi : World,wi = wr:=⟨_,rfl⟩
  rw [← hwi] at HR HG ⊢
  clear hwi
  have hl2 : l2.length = n - a:=by have h1:=HLN.out; have h2:=HC.out; rw [h2.1] at h1; simp at h1; omega
  by_cases hb : a + 20 ≤ n
  ·obtain ⟨x,r,hx,hx2⟩:=list_cut l2 20 (by omega)
   have hrow : RowS pasCells 6 base 75 g n c wi (dn ++ x ++ r):=by have h:=HR.out; rw [hx] at h; simpa using h
   have hi:=HINS.out a (a + 20) _ _ hrow (by omega) hb
   rw [insAt_mid (ltOf cv) dn x r a (a + 20) HC.out.2.2.1.symm (by omega)] at hi
   have HI:=Lib.hid hi
   have HC2 : Hid (l = (l1 ++ x) ++ r ∧ (l1 ++ x).length = a + 20 ∧ (dn ++ sortP (ltOf cv) x).length = a + 20 ∧ ∀ l2 fin,BS (ltOf cv) 20 l2 fin → BS (ltOf cv) 20 ((l1 ++ x) ++ l2) ((dn ++ sortP (ltOf cv) x) ++ fin)):=Lib.hid (by
    obtain ⟨h1,h2,h3,h4⟩:=HC.out
    refine ⟨by rw [h1,hx]; simp,by simp; omega,by rw [List.length_append,length_sortP]; omega,fun q fin hq => ?_⟩
    have:=h4 _ _ (BS.cons x q fin hx2 hq)
    simpa using this)
   have hw1 : IntKind.i64.wrap (((a + 20 : Nat) : Int) + 20) = ((a + 20 + 20 : Nat) : Int):=by rw [show ((a + 20 : Nat) : Int) + 20 = ((a + 20 + 20 : Nat) : Int) by omega]; exact IntWalk.i64_in _ (by omega)
   have hbi : ((a + 20 : Nat) : Int) ≤ (n : Int):=by omega
   clear hi hrow HC HR hl2 hx hx2
   obtain ⟨a2,ha2⟩ : ∃ a2,a2 = a + 20:=⟨_,rfl⟩
   rw [← ha2] at HI HC2 hw1 hbi hb ⊢
   have ha3 : a < a2:=by omega
   clear ha2
   go_wp2_with fail
   refine HI.out.mono ?_
   rintro e w2 ⟨rfl,h1,h2⟩
   have HR2 : Hid (RowS pasCells 6 base 75 g n c w2 ((dn ++ sortP (ltOf cv) x) ++ r)):=Lib.hid (by simpa using h1)
   have HG2:=Lib.hid (gb_trans HG.out h2)
   clear h1 h2 HI
   go_wp2
   go_roundw
   case rel => exact ⟨a2,_,_,_,hb,rfl,rfl,HC2,HR2,HG2⟩
   case measure => simp [intOf]; omega
  ·have hi:=HINS.out a n (dn ++ l2 ++ []) wi (by simpa using HR.out) (by omega) (Nat.le_refl _)
   rw [insAt_mid (ltOf cv) dn l2 [] a n HC.out.2.2.1.symm (by omega)] at hi
   have HI:=Lib.hid hi
   have HB : Hid (BS (ltOf cv) 20 l (dn ++ sortP (ltOf cv) l2)):=Lib.hid (by obtain ⟨h1,h2,h3,h4⟩:=HC.out; rw [h1]; exact h4 _ _ (BS.one l2 (by omega)))
   have hbi : ¬ (((a + 20 : Nat) : Int) ≤ (n : Int)):=by omega
   clear hi hl2
   obtain ⟨a2,ha2⟩ : ∃ a2,a2 = a + 20:=⟨_,rfl⟩
   rw [← ha2] at hbi hb ⊢
   clear ha2
   go_wp2_with fail
   refine HI.out.mono ?_
   rintro e w2 ⟨rfl,h1,h2⟩
   have HR2 : Hid (RowS pasCells 6 base 75 g n c w2 (dn ++ sortP (ltOf cv) l2)):=Lib.hid (by simpa using h1)
   have HG2:=Lib.hid (gb_trans HG.out h2)
   clear h1 h2 HI HR HG HC hbi hb
   generalize dn ++ sortP (ltOf cv) l2 = cur0 at HR2 HB
   go_wp2
   go_loopw [6] (fun x wr => ∃ (q : Nat) (cur : List Pas),20 ≤ q ∧ q ≤ 2000000 ∧ x = .int .i64 q ∧ Hid (BS (ltOf cv) q l cur) ∧ Hid (RowS pasCells 6 base 75 g n c wr (cur)) ∧ Hid (w.grownBy wr (some g))) (fun x _ => n - (intOf x).toNat)
   case atStart => exact ⟨20,cur0,by omega,by omega,rfl,HB,HR2,HG2⟩
   case round =>
    clear HB HR2 HG2
    obtain ⟨q,cur,hq1,hq2,rfl,HB,HR,HG⟩:=hrel
    obtain ⟨wi,hwi⟩ : ∃ wi : World,wi = wr:=⟨_,rfl⟩
    rw [← hwi] at HR HG ⊢
    clear hwi
    by_cases hqn : q < n
    ·skip
     have HC0 : Hid (l = [] ++ l ∧ ([] : List Pas).length = 0 ∧ ([] : List Pas).length = 0 ∧ BS (ltOf cv) q l cur ∧ ∀ l2 fin,BS (ltOf cv) (2 * q) l2 fin → BS (ltOf cv) (2 * q) ([] ++ l2) ([] ++ fin)):=Lib.hid ⟨rfl,rfl,rfl,HB.out,fun _ _ h => h⟩
     have HR0 : Hid (RowS pasCells 6 base 75 g n c wi ([] ++ cur)):=Lib.hid HR.out
     clear HR HB
     obtain ⟨qq,hqq⟩ : ∃ qq,qq = 2 * q:=⟨_,rfl⟩
     rw [← hqq] at HC0
     have hw2 : IntKind.i64.wrap (2 * (q : Int)) = (qq : Int):=by rw [show 2 * (q : Int) = (qq : Int) by omega]; exact IntWalk.i64_in _ (by omega)
     have hw3 : IntKind.i64.wrap ((q : Int) * 2) = (qq : Int):=by rw [show (q : Int) * 2 = (qq : Int) by omega]; exact IntWalk.i64_in _ (by omega)
     have hqq1 : qq ≤ 2 * q:=by omega
     have hqq2 : 2 * q ≤ qq:=by omega
     clear hqq
     go_wp2
     go_loopw [7,8] (fun x y wr => ∃ (a : Nat) (l1 l2 dn rs : List Pas),a ≤ n ∧ x = .int .i64 a ∧ y = .int .i64 ((a + qq : Nat) : Int) ∧ Hid (l = l1 ++ l2 ∧ l1.length = a ∧ dn.length = a ∧ BS (ltOf cv) q l2 rs ∧ ∀ l2 fin,BS (ltOf cv) qq l2 fin → BS (ltOf cv) qq (l1 ++ l2) (dn ++ fin)) ∧ Hid (RowS pasCells 6 base 75 g n c wr (dn ++ rs)) ∧ Hid (w.grownBy wr (some g))) (fun x _ _ => n - (intOf x).toNat)
     case atStart => exact ⟨0,[],l,[],cur,Nat.zero_le _,rfl,by simp,HC0,HR0,HG⟩
     case round =>
      clear HC0 HR0 HG
      obtain ⟨a,l1,l2,dn,rs,han,rfl,rfl,HC,HR,HG⟩:=hrel
      obtain ⟨wi,hwi⟩ : ∃ wi : World,wi = wr:=⟨_,rfl⟩
      rw [← hwi] at HR HG ⊢
      clear hwi
      have hl2 : l2.length = n - a:=by have h1:=HLN.out; have h2:=HC.out; rw [h2.1] at h1; simp at h1; omega
      have hw4 : IntKind.i64.wrap ((a : Int) + (q : Int)) = ((a + q : Nat) : Int):=by rw [show (a : Int) + (q : Int) = ((a + q : Nat) : Int) by omega]; exact IntWalk.i64_in _ (by omega)
      by_cases hb : a + qq ≤ n
      ·obtain ⟨x,r,cr,hx,hcr,hxl,hbr⟩:=HC.out.2.2.2.1.take (by omega)
       have hrl : r.length = n - a - q:=by rw [hx] at hl2; simp at hl2; omega
       obtain ⟨y,r2,c2,hy,hc2,hyl,hb2⟩:=hbr.take (by omega)
       have hi:=HSYM.out dn (sortP (ltOf cv) x) (sortP (ltOf cv) y) c2 a (a + q) (a + qq) wi HC.out.2.2.1.symm (by rw [length_sortP]; omega) (by rw [length_sortP]; omega) (by rw [length_sortP]; omega) (by rw [length_sortP]; omega) (srtd_sortP HSW.out _) (srtd_sortP HSW.out _) (by have h:=HR.out; rw [hcr,hc2] at h; simpa using h)
       rw [sort_append HSW.out] at hi
       have HI:=Lib.hid hi
       have HC2 : Hid (l = (l1 ++ (x ++ y)) ++ r2 ∧ (l1 ++ (x ++ y)).length = a + qq ∧ (dn ++ sortP (ltOf cv) (x ++ y)).length = a + qq ∧ BS (ltOf cv) q r2 c2 ∧ ∀ l2 fin,BS (ltOf cv) qq l2 fin → BS (ltOf cv) qq ((l1 ++ (x ++ y)) ++ l2) ((dn ++ sortP (ltOf cv) (x ++ y)) ++ fin)):=Lib.hid (by
        obtain ⟨h1,h2,h3,_,h4⟩:=HC.out
        refine ⟨by rw [h1,hx,hy]; simp,by simp; omega,by rw [List.length_append,length_sortP]; simp; omega,hb2,fun z fin hz => ?_⟩
        have:=h4 _ _ (BS.cons (x ++ y) z fin (by simp; omega) hz)
        simpa using this)
       have hbi : ((a + qq : Nat) : Int) ≤ (n : Int):=by omega
       have hw1 : IntKind.i64.wrap (((a + qq : Nat) : Int) + (qq : Int)) = ((a + qq + qq : Nat) : Int):=by rw [show ((a + qq : Nat) : Int) + (qq : Int) = ((a + qq + qq : Nat) : Int) by omega]; exact IntWalk.i64_in _ (by omega)
       clear hi HC HR hl2 hx hxl hcr hbr hrl hy hc2 hyl hb2
       obtain ⟨a2,ha2⟩ : ∃ a2,a2 = a + qq:=⟨_,rfl⟩
       obtain ⟨a3,ha3⟩ : ∃ a3,a3 = a + q:=⟨_,rfl⟩
       rw [← ha2] at HI HC2 hw1 hbi hb ⊢
       rw [← ha3] at HI hw4
       have ha4 : a < a2:=by omega
       clear ha2 ha3
       go_wp2_with fail
       refine HI.out.mono ?_
       rintro e w2 ⟨rfl,h1,h2⟩
       have HR2 : Hid (RowS pasCells 6 base 75 g n c w2 ((dn ++ sortP (ltOf cv) (x ++ y)) ++ c2)):=Lib.hid (by simpa using h1)
       have HG2:=Lib.hid (gb_trans HG.out h2)
       clear h1 h2 HI
       go_wp2
       go_roundw
       case rel => exact ⟨a2,_,_,_,_,hb,rfl,rfl,HC2,HR2,HG2⟩
       case measure => simp [intOf]; omega
      ·have hbi : ¬ (((a + qq : Nat) : Int) ≤ (n : Int)):=by omega
       have hqqm : qq ≤ 2000000:=by omega
       by_cases hm : a + q < n
       ·obtain ⟨x,r,cr,hx,hcr,hxl,hbr⟩:=HC.out.2.2.2.1.take (by omega)
        have hrl : r.length = n - a - q:=by rw [hx] at hl2; simp at hl2; omega
        have hcr2:=hbr.short (by omega)
        have hi:=HSYM.out dn (sortP (ltOf cv) x) (sortP (ltOf cv) r) [] a (a + q) n wi HC.out.2.2.1.symm (by rw [length_sortP]; omega) (by rw [length_sortP]; omega) (by rw [length_sortP]; omega) (by rw [length_sortP]; omega) (srtd_sortP HSW.out _) (srtd_sortP HSW.out _) (by have h:=HR.out; rw [hcr,hcr2] at h; simpa using h)
        rw [sort_append HSW.out] at hi
        have HI:=Lib.hid hi
        have HB2 : Hid (BS (ltOf cv) qq l (dn ++ sortP (ltOf cv) (x ++ r))):=Lib.hid (by obtain ⟨h1,h2,h3,_,h4⟩:=HC.out; rw [h1,hx]; exact h4 _ _ (BS.one (x ++ r) (by simp; omega)))
        have hmi : ((a + q : Nat) : Int) < (n : Int):=by omega
        clear hi HC HR hl2 hx hxl hcr hbr hrl hcr2
        obtain ⟨a2,ha2⟩ : ∃ a2,a2 = a + qq:=⟨_,rfl⟩
        obtain ⟨a3,ha3⟩ : ∃ a3,a3 = a + q:=⟨_,rfl⟩
        rw [← ha2] at hbi hb ⊢
        rw [← ha3] at HI hw4 hmi hm
        clear ha2 ha3
        go_wp2_with fail
        refine HI.out.mono ?_
        rintro e w2 ⟨rfl,h1,h2⟩
        have HR2 : Hid (RowS pasCells 6 base 75 g n c w2 (dn ++ sortP (ltOf cv) (x ++ r))):=Lib.hid (by simpa using h1)
        have HG2:=Lib.hid (gb_trans HG.out h2)
        clear h1 h2 HI
        go_wp2
        go_roundw
        case rel => exact ⟨qq,_,by omega,hqqm,rfl,HB2,HR2,HG2⟩
        case measure => simp [intOf]; omega
       ·have hs:=HC.out.2.2.2.1.short (by omega)
        have HB2 : Hid (BS (ltOf cv) qq l (dn ++ rs)):=Lib.hid (by obtain ⟨h1,h2,h3,_,h4⟩:=HC.out; rw [h1,hs]; exact h4 _ _ (BS.one l2 (by omega)))
        have hmi : ¬ (((a + q : Nat) : Int) < (n : Int)):=by omega
        clear hs hl2 HC
        obtain ⟨a2,ha2⟩ : ∃ a2,a2 = a + qq:=⟨_,rfl⟩
        obtain ⟨a3,ha3⟩ : ∃ a3,a3 = a + q:=⟨_,rfl⟩
        rw [← ha2] at hbi hb ⊢
        rw [← ha3] at hw4 hmi hm
        clear ha2 ha3
        go_wp2
        go_roundw
        case rel => exact ⟨qq,_,by omega,hqqm,rfl,HB2,HR,HG⟩
        case measure => simp [intOf]; omega
    ·have hfin : RowS pasCells 6 base 75 g n c wi (sortP (ltOf cv) l):=by
      have h1:=HB.out.short (by have:=HLN.out; omega)
      have h:=HR.out
      rw [h1] at h
      exact h
     have HF:=Lib.hid hfin
     clear hfin
     go_wp2
     go_end0
     exact ⟨rfl,HF.out,HG.out⟩
theorem sort_any (K : Nat) (caps : Array Value) (cv : Pas → Pas → Int) (eg : ∀ args w,(callFunc K args).run Tryz.prog w = .ok (.enter K args) w) (hcmp : CmpC K caps cv) (hsw : SW (ltOf cv)) (base g n c : Nat) (hn : n ≤ 1000000) (l : List Pas) (w : World) (hr : RowS pasCells 6 base 75 g n c w (l)) :
  Calls Tryz.prog 49 #[.slice (some ⟨g,0,none⟩) n c,.func (.func K) #[] caps] w
   fun e w' => e = .returned (.tuple #[]) ∧ RowS pasCells 6 base 75 g n c w' (sortP (ltOf cv) l) ∧ w.grownBy w' (some g):=by
 have HI:=Lib.hid (stable_any K caps cv eg hcmp hsw base g n c hn l w hr)
 clear hr hcmp hsw
 go_enter Tryz.func49,Tryz.ntmps49
 go_wp2_with fail
 refine HI.out.mono ?_
 rintro e w2 ⟨rfl,h1,h2⟩
 go_wp2
 go_end0
 exact ⟨rfl,h1,h2⟩
end Go.Proofs.YtjidhhfabfnhnaaGreat
namespace Go.Proofs.YtjidhhfabfnhnaaGreat
open Go.RowKit
theorem idStn (id x y re an sk : Int) (w : World) :
  Calls Tryz.prog 104 #[.agg #[.int .i64 id,.int .i64 x,.int .i64 y,.int .i64 re,.int .i64 an,.int .i64 sk]] w fun e w' => e = .returned (.int .i64 id) ∧ Below w.heap.size w w':=by
 go_enter Tryz.func104,Tryz.ntmps104
 go_wp2
 go_ret
 exact ⟨rfl,(by repeat (first | exact Below.refl _ _ | assumption | refine Below.drew ?_ | refine below_drewN ?_ _ | refine bl_alloc ?_ _ | refine Below.setCell ?_ (by first | (simp; done) | omega | (simp; omega)) _ | refine bl_then ?_ (by assumption)))⟩
set_option maxHeartbeats 4000000 in
theorem isListStn (l : List Stn) (A : Option Addr) (n c : Nat) (w : World) (h : RA stnCells 6 w w.heap.size A n c l) :
  Calls Tryz.prog 103 #[.slice A n c,.int .i64 12,.func (.func 62) #[] #[],.func (.func 104) #[] #[]] w fun e w' => e = .returned (.bool (stnsOK l)) ∧ Below w.heap.size w w':=by
 have HR:=Lib.hid h
 have hle:=h.le
 have hlen:=h.len
 have HL:=Lib.hid hlen
 have hs : stnsOK l = (decide (n ≤ 12) && listOK stnOK (·.id) none l):=by rw [stnsOK,hlen]
 rw [hs]
 clear h hs hlen
 by_cases hm : n ≤ 12
 ·have hd : decide (n ≤ 12) = true:=by simpa using hm
  rw [hd,Bool.true_and]
  clear hd
  have hrl : listOK stnOK (·.id) none l = listOK stnOK (·.id) (prevAt l 0) (l.drop 0):=by simp [prevAt]
  have HQ:=Lib.hid hrl
  clear hrl
  go_enter Tryz.func103,Tryz.ntmps103
  go_wp2
  go_loopw [17] (fun i wr => ∃ k : Nat,k ≤ n ∧ i = .int .i64 k ∧ Hid (listOK stnOK (·.id) none l = listOK stnOK (·.id) (prevAt l k) (l.drop k)) ∧ Below w.heap.size w wr) (fun i _ => n - (intOf i).toNat)
  case atStart => exact ⟨0,Nat.zero_le _,rfl,HQ,Below.refl _ _⟩
  case round =>
   clear HQ
   obtain ⟨k,hk,rfl,HK,hB⟩:=hrel
   by_cases hlt : k < n
   ·obtain ⟨b,o,hz,hA,hbl,hc⟩:=RA.at_ stn_len (HR.out.below hB) hlt
    have hst:=listOK_step stnOK (fun x => x.id) l k hz
    rw [← HK.out] at hst
    generalize hx : l[k] = x at hst hc
    obtain ⟨id,⟨x,y⟩,re,an,sk⟩:=x
    have c0 : wr.cell? ⟨b,o + k * 6,none⟩ = some (.int .i64 id):=hc 0 (by omega)
    have c1 : wr.cell? ⟨b,o + k * 6 + 1,none⟩ = some (.int .i64 x):=hc 1 (by omega)
    have c2 : wr.cell? ⟨b,o + k * 6 + 2,none⟩ = some (.int .i64 y):=hc 2 (by omega)
    have c3 : wr.cell? ⟨b,o + k * 6 + 3,none⟩ = some (.int .i64 re):=hc 3 (by omega)
    have c4 : wr.cell? ⟨b,o + k * 6 + 4,none⟩ = some (.int .i64 an):=hc 4 (by omega)
    have c5 : wr.cell? ⟨b,o + k * 6 + 5,none⟩ = some (.int .i64 sk):=hc 5 (by omega)
    have HV:=Lib.hid (station_valid id x y re an sk)
    generalize stnOK ⟨id,⟨x,y⟩,re,an,sk⟩ = q at hst HV
    dsimp only at hst
    have HS:=Lib.hid hst
    clear hst hc HK
    subst hA
    have hblt : b < w.heap.size:=hbl
    go_wp2_with fail
    have K:=Blk.new wr 71 #[.int .i64 id,.int .i64 x,.int .i64 y,.int .i64 re,.int .i64 an,.int .i64 sk]
    have hB1 : Below w.heap.size w (wr.alloc (.cells #[.int .i64 id,.int .i64 x,.int .i64 y,.int .i64 re,.int .i64 an,.int .i64 sk] 71)):=bl_alloc hB _
    have hg1 : w.heap.size ≤ wr.heap.size:=hB.size
    have hx1 : Ext wr (wr.alloc (.cells #[.int .i64 id,.int .i64 x,.int .i64 y,.int .i64 re,.int .i64 an,.int .i64 sk] 71)):=bl_alloc (Below.refl _ _) _
    generalize wr.alloc (.cells #[.int .i64 id,.int .i64 x,.int .i64 y,.int .i64 re,.int .i64 an,.int .i64 sk] 71) = W at K hB1 hx1 ⊢
    have HX1:=Lib.hid hx1
    clear hx1
    have g0 : W.cell? ⟨wr.heap.size,0,none⟩ = some (.int .i64 id):=K.cell 0
    have g1 : W.cell? ⟨wr.heap.size,1,none⟩ = some (.int .i64 x):=K.cell 1
    have g2 : W.cell? ⟨wr.heap.size,2,none⟩ = some (.int .i64 y):=K.cell 2
    have g3 : W.cell? ⟨wr.heap.size,3,none⟩ = some (.int .i64 re):=K.cell 3
    have g4 : W.cell? ⟨wr.heap.size,4,none⟩ = some (.int .i64 an):=K.cell 4
    have g5 : W.cell? ⟨wr.heap.size,5,none⟩ = some (.int .i64 sk):=K.cell 5
    cases q
    ·skip
     refine wp_region_obl 21 (fun ix vals v w1 => match ix with | 0 => v = .func (.func 62) #[] #[] | 1 => v = .agg #[.int .i64 id,.int .i64 x,.int .i64 y,.int .i64 re,.int .i64 an,.int .i64 sk] | 2 => v = .bool false | 3 => v = .bool true | 4 => v = .bool true | 5 => v = undef | 6 => v = undef | 7 => v = undef | 8 => v = undef | 9 => v = undef | 10 => v = undef | 11 => v = undef | 12 => v = undef | 13 => v = undef | 14 => v = undef | 15 => v = undef | 16 => v = undef | 17 => v = undef | 18 => v = undef | 19 => v = undef | _ => v = .bool true) (by kernel_rfl) (by kernel_rfl) ?_ ?_ ?_ ?_
     ·intro ix vals v w1 w2 hi hr hx; exact hr
     ·intro ix vals vals_ v w1 hi hv hr
      exact hr
     ·refine ⟨?_,?_,?_,?_,?_,?_,?_,?_,?_,?_,?_,?_,?_,?_,?_,?_,?_,?_,?_,?_,?_,trivial⟩
      ·intro vals w1 hx hd ha
       clear hd ha
       simp only [Lf]
       go_wp2
       exact q_
      ·intro vals w1 hx hd ha
       clear hd ha
       simp only [Lf,dstAt,Act.put,FR_]
       have g0:=ext_cell hx g0
       have g1:=ext_cell hx g1
       have g2:=ext_cell hx g2
       have g3:=ext_cell hx g3
       have g4:=ext_cell hx g4
       have g5:=ext_cell hx g5
       go_wp2
       exact q_
      ·intro vals w1 hx hd ha
       have e0 : vals 0 = .func (.func 62) #[] #[]:=hd 0 (by decide)
       have e1 : vals 1 = .agg #[.int .i64 id,.int .i64 x,.int .i64 y,.int .i64 re,.int .i64 an,.int .i64 sk]:=hd 1 (by decide)
       clear hd ha
       simp only [Lf,dstAt,Act.put,FR_,e0]
       simp only [e1]
       clear e0 e1
       go_wp2_with fail
       refine (HV.out _).mono ?_
       rintro e w2 ⟨rfl,hb2⟩
       go_wp2
       exact ⟨rfl,hb2,rfl⟩
      ·intro vals w1 hx hd ha
       have e2 : vals 2 = .bool false:=hd 2 (by decide)
       clear hd ha
       simp only [Lf,dstAt,Act.put,FR_,e2]
       clear e2
       go_wp2
       exact q_
      ·intro vals w1 hx hd ha
       have e2 : vals 2 = .bool false:=hd 2 (by decide)
       have e3 : vals 3 = .bool true:=hd 3 (by decide)
       clear hd ha
       simp only [Lf,dstAt,Act.put,FR_,e2,e3]
       clear e2 e3
       go_wp2
       exact q_
      ·intro vals w1 hx hd ha
       have e4 : vals 4 = .bool true:=hd 4 (by decide)
       clear hd ha
       simp only [Lf,dstAt,Act.put,FR_,e4]
       clear e4
       go_wp2
       exact q_
      ·intro vals w1 hx hd ha
       have e4 : vals 4 = .bool true:=hd 4 (by decide)
       have e5 : vals 5 = undef:=hd 5 (by decide)
       clear hd ha
       simp only [Lf,dstAt,Act.put,FR_,e4,e5]
       clear e4 e5
       go_wp2
       exact q_
      ·intro vals w1 hx hd ha
       have e4 : vals 4 = .bool true:=hd 4 (by decide)
       have e6 : vals 6 = undef:=hd 6 (by decide)
       clear hd ha
       simp only [Lf,dstAt,Act.put,FR_,e4,e6]
       clear e4 e6
       go_wp2
       exact q_
      ·intro vals w1 hx hd ha
       have e7 : vals 7 = undef:=hd 7 (by decide)
       clear hd ha
       simp only [Lf,dstAt,Act.put,FR_,e7]
       clear e7
       go_wp2
       exact q_
      ·intro vals w1 hx hd ha
       have e7 : vals 7 = undef:=hd 7 (by decide)
       clear hd ha
       simp only [Lf,dstAt,Act.put,FR_,e7]
       clear e7
       go_wp2
       exact q_
      ·intro vals w1 hx hd ha
       have e7 : vals 7 = undef:=hd 7 (by decide)
       have e8 : vals 8 = undef:=hd 8 (by decide)
       have e9 : vals 9 = undef:=hd 9 (by decide)
       clear hd ha
       simp only [Lf,dstAt,Act.put,FR_,e7,e8,e9]
       clear e7 e8 e9
       go_wp2
       exact q_
      ·intro vals w1 hx hd ha
       have e7 : vals 7 = undef:=hd 7 (by decide)
       clear hd ha
       simp only [Lf,dstAt,Act.put,FR_,e7]
       clear e7
       go_wp2
       exact q_
      ·intro vals w1 hx hd ha
       have e7 : vals 7 = undef:=hd 7 (by decide)
       clear hd ha
       simp only [Lf,dstAt,Act.put,FR_,e7]
       clear e7
       go_wp2
       exact q_
      ·intro vals w1 hx hd ha
       have e7 : vals 7 = undef:=hd 7 (by decide)
       clear hd ha
       simp only [Lf,dstAt,Act.put,FR_,e7]
       clear e7
       go_wp2
       exact q_
      ·intro vals w1 hx hd ha
       have e7 : vals 7 = undef:=hd 7 (by decide)
       have e13 : vals 13 = undef:=hd 13 (by decide)
       clear hd ha
       simp only [Lf,dstAt,Act.put,FR_,e7,e13]
       clear e7 e13
       go_wp2
       exact q_
      ·intro vals w1 hx hd ha
       have e7 : vals 7 = undef:=hd 7 (by decide)
       have e12 : vals 12 = undef:=hd 12 (by decide)
       have e14 : vals 14 = undef:=hd 14 (by decide)
       clear hd ha
       simp only [Lf,dstAt,Act.put,FR_,e7,e12,e14]
       clear e7 e12 e14
       go_wp2
       exact q_
      ·intro vals w1 hx hd ha
       have e7 : vals 7 = undef:=hd 7 (by decide)
       have e15 : vals 15 = undef:=hd 15 (by decide)
       clear hd ha
       simp only [Lf,dstAt,Act.put,FR_,e7,e15]
       clear e7 e15
       go_wp2
       exact q_
      ·intro vals w1 hx hd ha
       have e7 : vals 7 = undef:=hd 7 (by decide)
       have e10 : vals 10 = undef:=hd 10 (by decide)
       have e11 : vals 11 = undef:=hd 11 (by decide)
       have e16 : vals 16 = undef:=hd 16 (by decide)
       clear hd ha
       simp only [Lf,dstAt,Act.put,FR_,e7,e10,e11,e16]
       clear e7 e10 e11 e16
       go_wp2
       exact q_
      ·intro vals w1 hx hd ha
       have e7 : vals 7 = undef:=hd 7 (by decide)
       have e10 : vals 10 = undef:=hd 10 (by decide)
       have e17 : vals 17 = undef:=hd 17 (by decide)
       clear hd ha
       simp only [Lf,dstAt,Act.put,FR_,e7,e10,e17]
       clear e7 e10 e17
       go_wp2
       exact q_
      ·intro vals w1 hx hd ha
       have e4 : vals 4 = .bool true:=hd 4 (by decide)
       have e7 : vals 7 = undef:=hd 7 (by decide)
       have e18 : vals 18 = undef:=hd 18 (by decide)
       clear hd ha
       simp only [Lf,dstAt,Act.put,FR_,e4,e7,e18]
       clear e4 e7 e18
       go_wp2
       exact q_
      ·intro vals w1 hx hd ha
       have e4 : vals 4 = .bool true:=hd 4 (by decide)
       have e19 : vals 19 = undef:=hd 19 (by decide)
       clear hd ha
       simp only [Lf,dstAt,Act.put,FR_,e4,e19]
       clear e4 e19
       go_wp2
       exact q_
     intro vals w5 hx hf
     have e20 : vals 20 = .bool true:=hf 20 (by omega)
     clear hf
     have hx:=hx.undrew
     have hB5:=bl_then hB1 hx
     refine tail0 (by kernel_rfl) ?_
     simp only [Lf,dstAt,Act.put,FR_]
     rw [e20]
     clear e20 g0 g1 g2 g3 g4 g5
     go_wp2
     go_ret
     exact ⟨by rw [HS.out]; rfl,hB5⟩
    ·by_cases hk0 : k = 0
     ·have hk0' : (k : Int) ≤ 0:=by omega
      have hpv : prevAt l k = none:=by simp [prevAt,hk0]
      have HP:=Lib.hid hpv
      have hk0h:=Lib.hid hk0
      have hkd : decide (0 < k) = false:=by simp; omega
      clear hpv hk0
      refine wp_region_obl 21 (fun ix vals v w1 => match ix with | 0 => v = .func (.func 62) #[] #[] | 1 => v = .agg #[.int .i64 id,.int .i64 x,.int .i64 y,.int .i64 re,.int .i64 an,.int .i64 sk] | 2 => v = .bool true | 3 => v = .bool false | 4 => v = .bool false | 5 => v = .int .i64 (k : Int) | 6 => v = .bool false | 7 => v = .bool false | 8 => v = undef | 9 => v = undef | 10 => v = undef | 11 => v = undef | 12 => v = undef | 13 => v = undef | 14 => v = undef | 15 => v = undef | 16 => v = undef | 17 => v = undef | 18 => v = undef | 19 => v = .bool false | _ => v = .bool false) (by kernel_rfl) (by kernel_rfl) ?_ ?_ ?_ ?_
      ·intro ix vals v w1 w2 hi hr hx; exact hr
      ·intro ix vals vals_ v w1 hi hv hr
       exact hr
      ·refine ⟨?_,?_,?_,?_,?_,?_,?_,?_,?_,?_,?_,?_,?_,?_,?_,?_,?_,?_,?_,?_,?_,trivial⟩
       ·intro vals w1 hx hd ha
        clear hd ha
        simp only [Lf]
        go_wp2
        exact q_
       ·intro vals w1 hx hd ha
        clear hd ha
        simp only [Lf,dstAt,Act.put,FR_]
        have g0:=ext_cell hx g0
        have g1:=ext_cell hx g1
        have g2:=ext_cell hx g2
        have g3:=ext_cell hx g3
        have g4:=ext_cell hx g4
        have g5:=ext_cell hx g5
        go_wp2
        exact q_
       ·intro vals w1 hx hd ha
        have e0 : vals 0 = .func (.func 62) #[] #[]:=hd 0 (by decide)
        have e1 : vals 1 = .agg #[.int .i64 id,.int .i64 x,.int .i64 y,.int .i64 re,.int .i64 an,.int .i64 sk]:=hd 1 (by decide)
        clear hd ha
        simp only [Lf,dstAt,Act.put,FR_,e0]
        simp only [e1]
        clear e0 e1
        go_wp2_with fail
        refine (HV.out _).mono ?_
        rintro e w2 ⟨rfl,hb2⟩
        go_wp2
        exact ⟨rfl,hb2,rfl⟩
       ·intro vals w1 hx hd ha
        have e2 : vals 2 = .bool true:=hd 2 (by decide)
        clear hd ha
        simp only [Lf,dstAt,Act.put,FR_,e2]
        clear e2
        go_wp2
        exact q_
       ·intro vals w1 hx hd ha
        have e2 : vals 2 = .bool true:=hd 2 (by decide)
        have e3 : vals 3 = .bool false:=hd 3 (by decide)
        clear hd ha
        simp only [Lf,dstAt,Act.put,FR_,e2,e3]
        clear e2 e3
        go_wp2
        exact q_
       ·intro vals w1 hx hd ha
        have e4 : vals 4 = .bool false:=hd 4 (by decide)
        clear hd ha
        simp only [Lf,dstAt,Act.put,FR_,e4]
        clear e4
        go_wp2
        exact q_
       ·intro vals w1 hx hd ha
        have e4 : vals 4 = .bool false:=hd 4 (by decide)
        have e5 : vals 5 = .int .i64 (k : Int):=hd 5 (by decide)
        clear hd ha
        simp only [Lf,dstAt,Act.put,FR_,e4,e5]
        clear e4 e5
        go_wp2
        exact q_
       ·intro vals w1 hx hd ha
        have e4 : vals 4 = .bool false:=hd 4 (by decide)
        have e6 : vals 6 = .bool false:=hd 6 (by decide)
        clear hd ha
        simp only [Lf,dstAt,Act.put,FR_,e4,e6]
        clear e4 e6
        go_wp2
        exact q_
       ·intro vals w1 hx hd ha
        have e7 : vals 7 = .bool false:=hd 7 (by decide)
        clear hd ha
        simp only [Lf,dstAt,Act.put,FR_,e7]
        clear e7
        go_wp2
        exact q_
       ·intro vals w1 hx hd ha
        have e7 : vals 7 = .bool false:=hd 7 (by decide)
        clear hd ha
        simp only [Lf,dstAt,Act.put,FR_,e7]
        clear e7
        go_wp2
        exact q_
       ·intro vals w1 hx hd ha
        have e7 : vals 7 = .bool false:=hd 7 (by decide)
        have e8 : vals 8 = undef:=hd 8 (by decide)
        have e9 : vals 9 = undef:=hd 9 (by decide)
        clear hd ha
        simp only [Lf,dstAt,Act.put,FR_,e7,e8,e9]
        clear e7 e8 e9
        go_wp2
        exact q_
       ·intro vals w1 hx hd ha
        have e7 : vals 7 = .bool false:=hd 7 (by decide)
        clear hd ha
        simp only [Lf,dstAt,Act.put,FR_,e7]
        clear e7
        go_wp2
        exact q_
       ·intro vals w1 hx hd ha
        have e7 : vals 7 = .bool false:=hd 7 (by decide)
        clear hd ha
        simp only [Lf,dstAt,Act.put,FR_,e7]
        clear e7
        go_wp2
        exact q_
       ·intro vals w1 hx hd ha
        have e7 : vals 7 = .bool false:=hd 7 (by decide)
        clear hd ha
        simp only [Lf,dstAt,Act.put,FR_,e7]
        clear e7
        go_wp2
        exact q_
       ·intro vals w1 hx hd ha
        have e7 : vals 7 = .bool false:=hd 7 (by decide)
        have e13 : vals 13 = undef:=hd 13 (by decide)
        clear hd ha
        simp only [Lf,dstAt,Act.put,FR_,e7,e13]
        clear e7 e13
        go_wp2
        exact q_
       ·intro vals w1 hx hd ha
        have e7 : vals 7 = .bool false:=hd 7 (by decide)
        have e12 : vals 12 = undef:=hd 12 (by decide)
        have e14 : vals 14 = undef:=hd 14 (by decide)
        clear hd ha
        simp only [Lf,dstAt,Act.put,FR_,e7,e12,e14]
        clear e7 e12 e14
        go_wp2
        exact q_
       ·intro vals w1 hx hd ha
        have e7 : vals 7 = .bool false:=hd 7 (by decide)
        have e15 : vals 15 = undef:=hd 15 (by decide)
        clear hd ha
        simp only [Lf,dstAt,Act.put,FR_,e7,e15]
        clear e7 e15
        go_wp2
        exact q_
       ·intro vals w1 hx hd ha
        have e7 : vals 7 = .bool false:=hd 7 (by decide)
        have e10 : vals 10 = undef:=hd 10 (by decide)
        have e11 : vals 11 = undef:=hd 11 (by decide)
        have e16 : vals 16 = undef:=hd 16 (by decide)
        clear hd ha
        simp only [Lf,dstAt,Act.put,FR_,e7,e10,e11,e16]
        clear e7 e10 e11 e16
        go_wp2
        exact q_
       ·intro vals w1 hx hd ha
        have e7 : vals 7 = .bool false:=hd 7 (by decide)
        have e10 : vals 10 = undef:=hd 10 (by decide)
        have e17 : vals 17 = undef:=hd 17 (by decide)
        clear hd ha
        simp only [Lf,dstAt,Act.put,FR_,e7,e10,e17]
        clear e7 e10 e17
        go_wp2
        exact q_
       ·intro vals w1 hx hd ha
        have e4 : vals 4 = .bool false:=hd 4 (by decide)
        have e7 : vals 7 = .bool false:=hd 7 (by decide)
        have e18 : vals 18 = undef:=hd 18 (by decide)
        clear hd ha
        simp only [Lf,dstAt,Act.put,FR_,e4,e7,e18]
        clear e4 e7 e18
        go_wp2
        exact q_
       ·intro vals w1 hx hd ha
        have e4 : vals 4 = .bool false:=hd 4 (by decide)
        have e19 : vals 19 = .bool false:=hd 19 (by decide)
        clear hd ha
        simp only [Lf,dstAt,Act.put,FR_,e4,e19]
        clear e4 e19
        go_wp2
        exact q_
      intro vals w5 hx hf
      have e20 : vals 20 = .bool false:=hf 20 (by omega)
      clear hf
      have hx:=hx.undrew
      have hB5:=bl_then hB1 hx
      refine tail0 (by kernel_rfl) ?_
      simp only [Lf,dstAt,Act.put,FR_]
      rw [e20]
      clear e20 g0 g1 g2 g3 g4 g5
      go_wp2
      go_roundw
      case rel => exact ⟨k + 1,by omega,by go_num,Lib.hid (by rw [HS.out,HP.out]; rfl),hB5⟩
      case measure => simp [intOf]; omega
     ·have hk1 : (0 : Int) < (k : Int):=by omega
      obtain ⟨b',o',hz',hA',hbl',hc'⟩:=RA.at_ stn_len (HR.out.below hB) (k:=k - 1) (by omega)
      obtain ⟨rfl,rfl⟩ : b' = b ∧ o' = o:=by injection hA' with hA'; injection hA' with h1 h2; exact ⟨h1.symm,h2.symm⟩
      have hpv : prevAt l k = some l[k - 1]:=by unfold prevAt; rw [if_neg hk0,List.getElem?_eq_getElem hz']
      generalize l[k - 1] = y at hpv hc'
      obtain ⟨y_id,⟨y_x,y_y⟩,y_re,y_an,y_sk⟩:=y
      have d0 : wr.cell? ⟨b',o' + (k - 1) * 6,none⟩ = some (.int .i64 y_id):=hc' 0 (by omega)
      have d1 : wr.cell? ⟨b',o' + (k - 1) * 6 + 1,none⟩ = some (.int .i64 y_x):=hc' 1 (by omega)
      have d2 : wr.cell? ⟨b',o' + (k - 1) * 6 + 2,none⟩ = some (.int .i64 y_y):=hc' 2 (by omega)
      have d3 : wr.cell? ⟨b',o' + (k - 1) * 6 + 3,none⟩ = some (.int .i64 y_re):=hc' 3 (by omega)
      have d4 : wr.cell? ⟨b',o' + (k - 1) * 6 + 4,none⟩ = some (.int .i64 y_an):=hc' 4 (by omega)
      have d5 : wr.cell? ⟨b',o' + (k - 1) * 6 + 5,none⟩ = some (.int .i64 y_sk):=hc' 5 (by omega)
      have HP:=Lib.hid hpv
      have hk0h:=Lib.hid hk0
      clear hpv hc' hA' hbl' hk0
      have hki : IntKind.i64.wrap ((k : Int) - 1) = (k : Int) - 1:=IntWalk.i64_in _ (by omega)
      have hkn : ((k : Int) - 1).toNat = k - 1:=by omega
      have hkd : decide (0 < k) = true:=by simp; omega
      have d0:=ext_cell HX1.out d0
      have d1:=ext_cell HX1.out d1
      have d2:=ext_cell HX1.out d2
      have d3:=ext_cell HX1.out d3
      have d4:=ext_cell HX1.out d4
      have d5:=ext_cell HX1.out d5
      refine wp_region_obl 21 (fun ix vals v w1 => match ix with | 0 => v = .func (.func 62) #[] #[] | 1 => v = .agg #[.int .i64 id,.int .i64 x,.int .i64 y,.int .i64 re,.int .i64 an,.int .i64 sk] | 2 => v = .bool true | 3 => v = .bool false | 4 => v = .bool false | 5 => v = .int .i64 (k : Int) | 6 => v = .bool true | 7 => v = .bool true | 8 => v = .func (.func 104) #[] #[] | 9 => v = .agg #[.int .i64 id,.int .i64 x,.int .i64 y,.int .i64 re,.int .i64 an,.int .i64 sk] | 10 => v = .int .i64 id | 11 => v = .func (.func 104) #[] #[] | 12 => v = .slice (some ⟨b',o',none⟩) n c | 13 => v = .int .i64 (k : Int) | 14 => v = .int .i64 ((k : Int) - 1) | 15 => v = .pointer (some ⟨b',o' + (k - 1) * 6,none⟩) | 16 => v = .agg #[.int .i64 y_id,.int .i64 y_x,.int .i64 y_y,.int .i64 y_re,.int .i64 y_an,.int .i64 y_sk] | 17 => v = .int .i64 y_id | 18 => v = .bool (decide (id ≤ y_id)) | 19 => v = .bool (decide (id ≤ y_id)) | _ => v = .bool (decide (id ≤ y_id))) (by kernel_rfl) (by kernel_rfl) ?_ ?_ ?_ ?_
      ·intro ix vals v w1 w2 hi hr hx; exact hr
      ·intro ix vals vals_ v w1 hi hv hr
       exact hr
      ·refine ⟨?_,?_,?_,?_,?_,?_,?_,?_,?_,?_,?_,?_,?_,?_,?_,?_,?_,?_,?_,?_,?_,trivial⟩
       ·intro vals w1 hx hd ha
        clear hd ha
        simp only [Lf]
        go_wp2
        exact q_
       ·intro vals w1 hx hd ha
        clear hd ha
        simp only [Lf,dstAt,Act.put,FR_]
        have g0:=ext_cell hx g0
        have g1:=ext_cell hx g1
        have g2:=ext_cell hx g2
        have g3:=ext_cell hx g3
        have g4:=ext_cell hx g4
        have g5:=ext_cell hx g5
        go_wp2
        exact q_
       ·intro vals w1 hx hd ha
        have e0 : vals 0 = .func (.func 62) #[] #[]:=hd 0 (by decide)
        have e1 : vals 1 = .agg #[.int .i64 id,.int .i64 x,.int .i64 y,.int .i64 re,.int .i64 an,.int .i64 sk]:=hd 1 (by decide)
        clear hd ha
        simp only [Lf,dstAt,Act.put,FR_,e0]
        simp only [e1]
        clear e0 e1
        go_wp2_with fail
        refine (HV.out _).mono ?_
        rintro e w2 ⟨rfl,hb2⟩
        go_wp2
        exact ⟨rfl,hb2,rfl⟩
       ·intro vals w1 hx hd ha
        have e2 : vals 2 = .bool true:=hd 2 (by decide)
        clear hd ha
        simp only [Lf,dstAt,Act.put,FR_,e2]
        clear e2
        go_wp2
        exact q_
       ·intro vals w1 hx hd ha
        have e2 : vals 2 = .bool true:=hd 2 (by decide)
        have e3 : vals 3 = .bool false:=hd 3 (by decide)
        clear hd ha
        simp only [Lf,dstAt,Act.put,FR_,e2,e3]
        clear e2 e3
        go_wp2
        exact q_
       ·intro vals w1 hx hd ha
        have e4 : vals 4 = .bool false:=hd 4 (by decide)
        clear hd ha
        simp only [Lf,dstAt,Act.put,FR_,e4]
        clear e4
        go_wp2
        exact q_
       ·intro vals w1 hx hd ha
        have e4 : vals 4 = .bool false:=hd 4 (by decide)
        have e5 : vals 5 = .int .i64 (k : Int):=hd 5 (by decide)
        clear hd ha
        simp only [Lf,dstAt,Act.put,FR_,e4,e5]
        clear e4 e5
        go_wp2
        exact q_
       ·intro vals w1 hx hd ha
        have e4 : vals 4 = .bool false:=hd 4 (by decide)
        have e6 : vals 6 = .bool true:=hd 6 (by decide)
        clear hd ha
        simp only [Lf,dstAt,Act.put,FR_,e4,e6]
        clear e4 e6
        go_wp2
        exact q_
       ·intro vals w1 hx hd ha
        have e7 : vals 7 = .bool true:=hd 7 (by decide)
        clear hd ha
        simp only [Lf,dstAt,Act.put,FR_,e7]
        clear e7
        go_wp2
        exact q_
       ·intro vals w1 hx hd ha
        have e7 : vals 7 = .bool true:=hd 7 (by decide)
        clear hd ha
        simp only [Lf,dstAt,Act.put,FR_,e7]
        clear e7
        have g0:=ext_cell hx g0
        have g1:=ext_cell hx g1
        have g2:=ext_cell hx g2
        have g3:=ext_cell hx g3
        have g4:=ext_cell hx g4
        have g5:=ext_cell hx g5
        go_wp2
        exact q_
       ·intro vals w1 hx hd ha
        have e7 : vals 7 = .bool true:=hd 7 (by decide)
        have e8 : vals 8 = .func (.func 104) #[] #[]:=hd 8 (by decide)
        have e9 : vals 9 = .agg #[.int .i64 id,.int .i64 x,.int .i64 y,.int .i64 re,.int .i64 an,.int .i64 sk]:=hd 9 (by decide)
        clear hd ha
        simp only [Lf,dstAt,Act.put,FR_,e7]
        simp only [e8]
        simp only [e9]
        clear e7 e8 e9
        go_wp2_with fail
        refine (idStn id x y re an sk _).mono ?_
        rintro e w2 ⟨rfl,hb2⟩
        go_wp2
        exact ⟨rfl,hb2,rfl⟩
       ·intro vals w1 hx hd ha
        have e7 : vals 7 = .bool true:=hd 7 (by decide)
        clear hd ha
        simp only [Lf,dstAt,Act.put,FR_,e7]
        clear e7
        go_wp2
        exact q_
       ·intro vals w1 hx hd ha
        have e7 : vals 7 = .bool true:=hd 7 (by decide)
        clear hd ha
        simp only [Lf,dstAt,Act.put,FR_,e7]
        clear e7
        go_wp2
        exact q_
       ·intro vals w1 hx hd ha
        have e7 : vals 7 = .bool true:=hd 7 (by decide)
        clear hd ha
        simp only [Lf,dstAt,Act.put,FR_,e7]
        clear e7
        go_wp2
        exact q_
       ·intro vals w1 hx hd ha
        have e7 : vals 7 = .bool true:=hd 7 (by decide)
        have e13 : vals 13 = .int .i64 (k : Int):=hd 13 (by decide)
        clear hd ha
        simp only [Lf,dstAt,Act.put,FR_,e7,e13]
        clear e7 e13
        go_wp2
        exact q_
       ·intro vals w1 hx hd ha
        have e7 : vals 7 = .bool true:=hd 7 (by decide)
        have e12 : vals 12 = .slice (some ⟨b',o',none⟩) n c:=hd 12 (by decide)
        have e14 : vals 14 = .int .i64 ((k : Int) - 1):=hd 14 (by decide)
        clear hd ha
        simp only [Lf,dstAt,Act.put,FR_,e7,e12,e14]
        clear e7 e12 e14
        go_wp2
        exact q_
       ·intro vals w1 hx hd ha
        have e7 : vals 7 = .bool true:=hd 7 (by decide)
        have e15 : vals 15 = .pointer (some ⟨b',o' + (k - 1) * 6,none⟩):=hd 15 (by decide)
        clear hd ha
        simp only [Lf,dstAt,Act.put,FR_,e7,e15]
        clear e7 e15
        have d0:=ext_cell hx d0
        have d1:=ext_cell hx d1
        have d2:=ext_cell hx d2
        have d3:=ext_cell hx d3
        have d4:=ext_cell hx d4
        have d5:=ext_cell hx d5
        go_wp2
        exact q_
       ·intro vals w1 hx hd ha
        have e7 : vals 7 = .bool true:=hd 7 (by decide)
        have e10 : vals 10 = .int .i64 id:=hd 10 (by decide)
        have e11 : vals 11 = .func (.func 104) #[] #[]:=hd 11 (by decide)
        have e16 : vals 16 = .agg #[.int .i64 y_id,.int .i64 y_x,.int .i64 y_y,.int .i64 y_re,.int .i64 y_an,.int .i64 y_sk]:=hd 16 (by decide)
        clear hd ha
        simp only [Lf,dstAt,Act.put,FR_,e7]
        simp only [e10]
        simp only [e11]
        simp only [e16]
        clear e7 e10 e11 e16
        go_wp2_with fail
        refine (idStn y_id y_x y_y y_re y_an y_sk _).mono ?_
        rintro e w2 ⟨rfl,hb2⟩
        go_wp2
        exact ⟨rfl,hb2,rfl⟩
       ·intro vals w1 hx hd ha
        have e7 : vals 7 = .bool true:=hd 7 (by decide)
        have e10 : vals 10 = .int .i64 id:=hd 10 (by decide)
        have e17 : vals 17 = .int .i64 y_id:=hd 17 (by decide)
        clear hd ha
        simp only [Lf,dstAt,Act.put,FR_,e7,e10,e17]
        clear e7 e10 e17
        go_wp2
        exact q_
       ·intro vals w1 hx hd ha
        have e4 : vals 4 = .bool false:=hd 4 (by decide)
        have e7 : vals 7 = .bool true:=hd 7 (by decide)
        have e18 : vals 18 = .bool (decide (id ≤ y_id)):=hd 18 (by decide)
        clear hd ha
        simp only [Lf,dstAt,Act.put,FR_,e4,e7,e18]
        clear e4 e7 e18
        go_wp2
        exact q_
       ·intro vals w1 hx hd ha
        have e4 : vals 4 = .bool false:=hd 4 (by decide)
        have e19 : vals 19 = .bool (decide (id ≤ y_id)):=hd 19 (by decide)
        clear hd ha
        simp only [Lf,dstAt,Act.put,FR_,e4,e19]
        clear e4 e19
        go_wp2
        exact q_
      intro vals w5 hx hf
      have e20 : vals 20 = .bool (decide (id ≤ y_id)):=hf 20 (by omega)
      clear hf
      have hx:=hx.undrew
      have hB5:=bl_then hB1 hx
      refine tail0 (by kernel_rfl) ?_
      simp only [Lf,dstAt,Act.put,FR_]
      rw [e20]
      clear e20 g0 g1 g2 g3 g4 g5 d0 d1 d2 d3 d4 d5
      by_cases hid : id ≤ y_id
      ·have hid2 : decide (y_id < id) = false:=by simp; omega
       have HI:=Lib.hid hid2
       clear hid2
       go_wp2
       go_ret
       exact ⟨by rw [HS.out,HP.out]; simp [HI.out],hB5⟩
      ·have hid2 : decide (y_id < id) = true:=by simp; omega
       have HI:=Lib.hid hid2
       clear hid2
       go_wp2
       go_roundw
       case rel => exact ⟨k + 1,by omega,by go_num,Lib.hid (by rw [HS.out,HP.out]; simp [HI.out]),hB5⟩
       case measure => simp [intOf]; omega
   ·go_wp2
    go_ret
    exact ⟨by rw [HK.out,List.drop_of_length_le (by rw [HL.out]; omega)]; rfl,hB⟩
 ·have hd : decide (n ≤ 12) = false:=by simpa using hm
  rw [hd,Bool.false_and]
  clear hd
  go_enter Tryz.func103,Tryz.ntmps103
  go_wp2
  go_ret
  exact ⟨rfl,(by repeat (first | exact Below.refl _ _ | assumption | refine Below.drew ?_ | refine below_drewN ?_ _ | refine bl_alloc ?_ _ | refine Below.setCell ?_ (by first | (simp; done) | omega | (simp; omega)) _ | refine bl_then ?_ (by assumption)))⟩
theorem validStns_any (l : List Stn) (A : Option Addr) (n c : Nat) (w : World) (h : RA stnCells 6 w w.heap.size A n c l) :
  Calls Tryz.prog 47 #[.slice A n c] w fun e w' => e = .returned (.bool (stnsOK l)) ∧ Below w.heap.size w w':=by
 have hc:=isListStn l A n c w h
 generalize stnsOK l = r at hc ⊢
 have HC:=Lib.hid hc
 clear hc h
 go_enter Tryz.func47,Tryz.ntmps47
 go_wp2_with fail
 refine HC.out.mono ?_
 rintro e w' ⟨rfl,hb⟩
 go_wp2
 go_ret
 exact ⟨rfl,hb⟩
end Go.Proofs.YtjidhhfabfnhnaaGreat
