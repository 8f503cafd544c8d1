/- Updates in memory; small contracts; the orbit at a minute. -/
import Derived.Test.YtjidhhfabfnhnaaGreatK04
import Derived.Test.YtjidhhfabfnhnaaGreatK01
import Derived.Deep.MidRow
import Derived.Laws.OwnMore
namespace Go.Proofs.YtjidhhfabfnhnaaGreat
open Go.RowKit
theorem pas_size : (Tryz.prog.info? 75).map (·.size) = some 6:=by kernel_rfl
theorem isPass_x (x : Pas) (w : World) : Calls Tryz.prog 66 #[.agg (pasCells x).toArray] w fun e w' => e = .returned (.bool (pasOK x)) ∧ Below w.heap.size w w':=by
 obtain ⟨sa,sn,⟨a,b⟩,⟨c,d⟩⟩:=x
 exact isPass_any sa sn a b c d w
theorem compare_x (x y : Pas) (w : World) : Calls Tryz.prog 68 #[.agg (pasCells x).toArray,.agg (pasCells y).toArray] w fun e w' => e = .returned (.int .i64 (cmpPas x y)) ∧ Below w.heap.size w w':=by
 obtain ⟨sa,sn,⟨a,b⟩,⟨c,d⟩⟩:=x
 obtain ⟨sa',sn',⟨a',b'⟩,⟨c',d'⟩⟩:=y
 exact compare_any sa sn a b c d sa' sn' a' b' c' d' w
theorem proper1_any (x : Pas) (w : World) : Calls Tryz.prog 65 #[.agg (pasCells x).toArray] w fun e w' => e = .returned (.bool (!pasOK x)) ∧ Below w.heap.size w w':=by
 have hv:=isPass_x x
 generalize pasOK x = q at hv ⊢
 obtain ⟨sa,sn,⟨a,b⟩,⟨c,d⟩⟩:=x
 have HV:=Lib.hid hv
 clear hv
 show Calls Tryz.prog 65 #[.agg #[.int .i64 sa,.int .i64 sn,.int .i64 a,.int .i64 b,.int .i64 c,.int .i64 d]] w _
 go_enter Tryz.func65,Tryz.ntmps65
 go_wp2_with fail
 refine (HV.out _).mono ?_
 rintro e w2 ⟨rfl,hb⟩
 have hB : Below w.heap.size w w2:=bl_then (by repeat (first | exact Below.refl _ _ | assumption | refine Below.drew ?_ | refine below_drewN ?_ _ | refine bl_alloc ?_ _ | refine Below.setCell ?_ (by first | (simp; done) | omega | (simp; omega)) _ | refine bl_then ?_ (by assumption))) hb
 go_wp2
 go_ret
 exact ⟨rfl,hB⟩
def idxA {α : Type} (p : α → Bool) : List α → Int → Int
 | [],_ => -1
 | x :: r,k => if p x then k else idxA p r (k + 1)
theorem idxA_any {α : Type} (p : α → Bool) (l : List α) (k : Int) (hk : 0 ≤ k) : (0 ≤ idxA p l k) = (l.any p = true):=by
 induction l generalizing k with
 | nil => simp [idxA]
 | cons x r ih =>
  unfold idxA
  cases hx : p x
  ·simp [hx,ih (k + 1) (by omega)]
  ·simp [hx,hk]
theorem idxA_drop {α : Type} (p : α → Bool) (l : List α) (k : Nat) (h : k < l.length) : idxA p (l.drop k) k = if p l[k] then (k : Int) else idxA p (l.drop (k + 1)) (k + 1 : Nat):=by
 rw [List.drop_eq_getElem_cons h,idxA]
 split <;> simp
theorem indexPas (l : List Pas) (A : Option Addr) (n c : Nat) (w : World) (h : RA pasCells 6 w w.heap.size A n c l) :
  Calls Tryz.prog 124 #[.slice A n c,.func (.func 65) #[] #[]] w
   fun e w' => e = .returned (.int .i64 (idxA (fun x => !pasOK x) l 0)) ∧ Below w.heap.size w w':=by
 have HR:=Lib.hid h
 have hle:=h.le
 have HL:=Lib.hid h.len
 clear h
 go_enter Tryz.func124,Tryz.ntmps124
 go_wp2
 go_loopw [8] (fun i wr => ∃ k : Nat,k ≤ n ∧ i = .int .i64 k ∧ Hid (idxA (fun x => !pasOK x) l 0 = idxA (fun x => !pasOK x) (l.drop k) k) ∧ Below w.heap.size w wr) (fun i _ => n - (intOf i).toNat)
 case atStart => exact ⟨0,Nat.zero_le _,rfl,rfl,Below.refl _ _⟩
 case round =>
  obtain ⟨k,hk,rfl,H,hB⟩:=hrel
  by_cases hlt : k < n
  ·obtain ⟨b,o,hz,hA,hbl,hc⟩:=RA.range pas_len (HR.out.below hB) hlt
   have hst:=idxA_drop (fun x => !pasOK x) l k hz
   rw [← H.out] at hst
   generalize l[k] = x at hst hc
   have hv:=proper1_any x
   obtain ⟨X,hX⟩ : ∃ X,(pasCells x).toArray = X:=⟨_,rfl⟩
   rw [hX] at hv
   generalize (!pasOK x) = q at hst hv
   have HX:=Lib.hid hX
   have HV:=Lib.hid hv
   have HS:=Lib.hid hst
   have HCC:=Lib.hid hc
   clear hX hv hst hc
   subst hA
   go_wp2_with (refine wpList_load_st rfl _ _ rfl b (o + k * 6) rfl X (pasCells x) HX.out _ HCC.out Tryz.underlying75 rfl pas_size ?_)
   refine (HV.out _).mono ?_
   rintro e w2 ⟨rfl,hb2⟩
   have hB2 : Below w.heap.size w w2:=bl_then hB hb2
   cases q
   ·go_wp2
    go_roundw
    case rel => exact ⟨k + 1,by omega,by go_num,HS.out.trans (by simp),hB2⟩
    case measure => simp [intOf]; omega
   ·go_wp2
    go_ret
    exact ⟨by rw [HS.out]; simp,hB2⟩
  ·go_wp2
   go_ret
   exact ⟨by rw [H.out,List.drop_of_length_le (by rw [HL.out]; omega)]; rfl,hB⟩
theorem containsPas (l : List Pas) (A : Option Addr) (n c : Nat) (w : World) (h : RA pasCells 6 w w.heap.size A n c l) :
  Calls Tryz.prog 64 #[.slice A n c,.func (.func 65) #[] #[]] w
   fun e w' => e = .returned (.bool (!l.all pasOK)) ∧ Below w.heap.size w w':=by
 have hf:=indexPas l A n c w h
 have hbb : (!l.all pasOK) = decide (0 ≤ idxA (fun x => !pasOK x) l 0):=by
  rw [Bool.eq_iff_iff,decide_eq_true_iff,idxA_any _ _ 0 (by omega)]
  simp
 rw [hbb]
 generalize idxA (fun x => !pasOK x) l 0 = r at hf
 have HF:=Lib.hid hf
 clear hf hbb h
 go_enter Tryz.func64,Tryz.ntmps64
 go_wp2_with (go_at_call 124; refine HF.out.mono ?_; rintro e w' ⟨rfl,hb'⟩)
 go_ret
 exact ⟨rfl,(by repeat (first | exact Below.refl _ _ | assumption | refine Below.drew ?_ | refine below_drewN ?_ _ | refine bl_alloc ?_ _ | refine Below.setCell ?_ (by first | (simp; done) | omega | (simp; omega)) _ | refine bl_then ?_ (by assumption)))⟩
def sortedP : List Pas → Bool
 | [] => true
 | [_] => true
 | x :: y :: r => !decide (cmpPas y x < 0) && sortedP (y :: r)
theorem sortedP_end (l : List Pas) (k : Nat) (h : l.length ≤ k + 1) : sortedP (l.drop k) = true:=by
 match hl : l.drop k with
 | [] => rfl
 | [_] => rfl
 | x :: y :: r =>
  have:=congrArg List.length hl
  simp at this
  omega
theorem sortedP_step (l : List Pas) (k : Nat) (h0 : 0 < k) (h : k < l.length) : sortedP (l.drop (k - 1)) = (!decide (cmpPas l[k] (l[k - 1]'(by omega)) < 0) && sortedP (l.drop k)):=by
 obtain ⟨k,rfl⟩ : ∃ j,k = j + 1:=⟨k - 1,by omega⟩
 simp only [Nat.add_sub_cancel]
 rw [List.drop_eq_getElem_cons (by omega : k < l.length),List.drop_eq_getElem_cons h,sortedP]
theorem sortedP_false (l : List Pas) (k : Nat) (h : sortedP (l.drop k) = false) : sortedP l = false:=by
 induction k generalizing l with
 | zero => simpa using h
 | succ k ih =>
  match l with
  | [] => simpa using h
  | [x] => simp [sortedP] at h
  | x :: y :: r =>
   have:=ih (y :: r) (by simpa using h)
   rw [sortedP,this,Bool.and_false]
theorem sortedPas (l : List Pas) (A : Option Addr) (n c : Nat) (w : World) (h : RA pasCells 6 w w.heap.size A n c l) :
  Calls Tryz.prog 67 #[.slice A n c,.func (.func 68) #[] #[]] w
   fun e w' => e = .returned (.bool (sortedP l)) ∧ Below w.heap.size w w':=by
 have HR:=Lib.hid h
 have hle:=h.le
 have HL:=Lib.hid h.len
 have h0 : sortedP (l.drop (n - 1)) = true:=sortedP_end l _ (by rw [h.len]; omega)
 have H0:=Lib.hid h0
 clear h h0
 go_enter Tryz.func67,Tryz.ntmps67
 go_wp2
 go_loopw [5] (fun i wr => ∃ k : Int,-1 ≤ k ∧ k < n ∧ i = .int .i64 k ∧ Hid (sortedP (l.drop k.toNat) = true) ∧ Below w.heap.size w wr) (fun i _ => (intOf i).toNat)
 case atStart => exact ⟨(n : Int) - 1,by omega,by omega,rfl,by rw [show ((n : Int) - 1).toNat = n - 1 by omega]; exact H0,Below.refl _ _⟩
 case round =>
  clear H0
  obtain ⟨i,hi1,hi2,rfl,H,hB⟩:=hrel
  by_cases hpos : 0 < i
  ·obtain ⟨k,rfl⟩ : ∃ k : Nat,i = k:=⟨i.toNat,by omega⟩
   have hkn : k < n:=by omega
   have hk0 : 0 < k:=by omega
   rw [Int.toNat_natCast] at H
   obtain ⟨b,o,hz,hA,hbl,hx_⟩:=RA.range pas_len (HR.out.below hB) hkn
   obtain ⟨b',o',hz',hA',hbl',hy_⟩:=RA.range pas_len (HR.out.below hB) (k:=k - 1) (by omega)
   have hst:=sortedP_step l k hk0 hz
   rw [H.out,Bool.and_true] at hst
   generalize l[k] = x at hst hx_
   generalize l[k - 1] = y at hst hy_
   obtain ⟨hb1,ho1⟩ : b' = b ∧ o' = o:=by rw [hA] at hA'; injection hA' with hA'; injection hA' with h1 h2; exact ⟨h1.symm,h2.symm⟩
   rw [hb1,ho1] at hy_
   have hv:=compare_x x y
   obtain ⟨X,hX⟩ : ∃ X,(pasCells x).toArray = X:=⟨_,rfl⟩
   obtain ⟨Y,hY⟩ : ∃ Y,(pasCells y).toArray = Y:=⟨_,rfl⟩
   rw [hX,hY] at hv
   generalize cmpPas x y = cv at hst hv
   have HX:=Lib.hid hX
   have HY:=Lib.hid hY
   have HC:=Lib.hid hv
   have HS:=Lib.hid hst
   clear hX hY hv hst hA' hbl' hb1 ho1 b' o'
   subst hA
   have hki : IntKind.i64.wrap ((k : Int) - 1) = (k : Int) - 1:=IntWalk.i64_in _ (by omega)
   have hkt : ((k : Int) - 1).toNat = k - 1:=by omega
   have HKT:=Lib.hid hkt
   go_wp2_with fail
   refine wp_region_obl 12 (fun ix vals v w1 => match ix with | 0 => v = .func (.func 68) #[] #[] | 1 => v = .slice (some ⟨b,o,none⟩) n c | 2 => v = .int .i64 (k : Int) | 3 => v = .pointer (some ⟨b,o + k * 6,none⟩) | 4 => v = .agg X | 5 => v = .slice (some ⟨b,o,none⟩) n c | 6 => v = .int .i64 (k : Int) | 7 => v = .int .i64 ((k : Int) - 1) | 8 => v = .pointer (some ⟨b,o + (k - 1) * 6,none⟩) | 9 => v = .agg Y | 10 => v = .int .i64 cv | _ => v = .bool (decide (cv < 0))) (by kernel_rfl) (by kernel_rfl) ?_ ?_ ?_ ?_
   ·intro ix vals v w1 w2 hi hr hx; exact hr
   ·intro ix vals vals_ v w1 hi hv hr
    exact hr
   ·refine ⟨?_,?_,?_,?_,?_,?_,?_,?_,?_,?_,?_,?_,trivial⟩
    ·intro vals w1 hx hd ha
     clear hd ha
     simp only [Lf]
     go_wp2
     exact q_
    ·intro vals w1 hx hd ha
     clear hd ha
     simp only [Lf,dstAt,Act.put,FR_]
     go_wp2
     exact q_
    ·intro vals w1 hx hd ha
     clear hd ha
     simp only [Lf,dstAt,Act.put,FR_]
     go_wp2
     exact q_
    ·intro vals w1 hx hd ha
     have e1 : vals 1 = .slice (some ⟨b,o,none⟩) n c:=hd 1 (by decide)
     have e2 : vals 2 = .int .i64 (k : Int):=hd 2 (by decide)
     clear hd ha
     simp only [Lf,dstAt,Act.put,FR_,e1,e2]
     clear e1 e2
     go_wp2
     exact q_
    ·intro vals w1 hx hd ha
     have e3 : vals 3 = .pointer (some ⟨b,o + k * 6,none⟩):=hd 3 (by decide)
     clear hd ha
     simp only [Lf,dstAt,Act.put,FR_,e3]
     clear e3
     refine wpList_load_st rfl _ _ rfl b (o + k * 6) rfl X (pasCells x) HX.out _ (RA.range2 hx_ hx.undrew) Tryz.underlying75 rfl pas_size ?_
     go_wp2
     exact q_
    ·intro vals w1 hx hd ha
     clear hd ha
     simp only [Lf,dstAt,Act.put,FR_]
     go_wp2
     exact q_
    ·intro vals w1 hx hd ha
     clear hd ha
     simp only [Lf,dstAt,Act.put,FR_]
     go_wp2
     exact q_
    ·intro vals w1 hx hd ha
     have e6 : vals 6 = .int .i64 (k : Int):=hd 6 (by decide)
     clear hd ha
     simp only [Lf,dstAt,Act.put,FR_,e6]
     clear e6
     go_wp2
     exact q_
    ·intro vals w1 hx hd ha
     have e5 : vals 5 = .slice (some ⟨b,o,none⟩) n c:=hd 5 (by decide)
     have e7 : vals 7 = .int .i64 ((k : Int) - 1):=hd 7 (by decide)
     clear hd ha
     simp only [Lf,dstAt,Act.put,FR_,e5,e7]
     clear e5 e7
     go_wp2
     exact q_
    ·intro vals w1 hx hd ha
     have e8 : vals 8 = .pointer (some ⟨b,o + (k - 1) * 6,none⟩):=hd 8 (by decide)
     clear hd ha
     simp only [Lf,dstAt,Act.put,FR_,e8]
     clear e8
     refine wpList_load_st rfl _ _ rfl b (o + (k - 1) * 6) rfl Y (pasCells y) HY.out _ (RA.range2 hy_ hx.undrew) Tryz.underlying75 rfl pas_size ?_
     go_wp2
     exact q_
    ·intro vals w1 hx hd ha
     have e0 : vals 0 = .func (.func 68) #[] #[]:=hd 0 (by decide)
     have e4 : vals 4 = .agg X:=hd 4 (by decide)
     have e9 : vals 9 = .agg Y:=hd 9 (by decide)
     clear hd ha
     simp only [Lf,dstAt,Act.put,FR_,e0]
     simp only [e4]
     simp only [e9]
     clear e0 e4 e9
     go_wp2_with fail
     refine (HC.out _).mono ?_
     rintro e w2 ⟨rfl,hb2⟩
     go_wp2
     exact ⟨rfl,hb2,rfl⟩
    ·intro vals w1 hx hd ha
     have e10 : vals 10 = .int .i64 cv:=hd 10 (by decide)
     clear hd ha
     simp only [Lf,dstAt,Act.put,FR_,e10]
     clear e10
     go_wp2
     exact q_
   intro vals w5 hxx hf
   have e11 : vals 11 = .bool (decide (cv < 0)):=hf 11 (by omega)
   clear hf
   have hB5:=bl_then hB hxx.undrew
   refine tail0 (by kernel_rfl) ?_
   simp only [Lf,dstAt,Act.put,FR_]
   rw [e11]
   clear e11 hki hkt
   by_cases hcv : cv < 0
   ·have hd : decide (cv < 0) = true:=by simpa using hcv
    have HD:=Lib.hid hd
    clear hd
    go_wp2
    go_ret
    have h:=sortedP_false l _ (show sortedP (l.drop (k - 1)) = false by rw [HS.out,HD.out]; rfl)
    rw [h]
    exact ⟨rfl,hB5⟩
   ·have hd : decide (cv < 0) = false:=by simpa using hcv
    have HD:=Lib.hid hd
    clear hd
    go_wp2
    go_roundw
    case rel => exact ⟨(k : Int) - 1,by omega,by omega,rfl,Lib.hid (by rw [HKT.out,HS.out,HD.out]; rfl),hB5⟩
    case measure => simp [intOf]; omega
  ·go_wp2
   go_ret
   have h:=H.out
   rw [show i.toNat = 0 by omega,List.drop_zero] at h
   rw [h]
   exact ⟨rfl,hB⟩
def properP (l : List Pas) : Bool:=decide (l.length ≤ 64) && l.all pasOK && sortedP l
theorem proper_any (l : List Pas) (A : Option Addr) (n c : Nat) (w : World) (h : RA pasCells 6 w w.heap.size A n c l) :
  Calls Tryz.prog 23 #[.slice A n c] w fun e w' => e = .returned (.bool (properP l)) ∧ Below w.heap.size w w':=by
 have HR:=Lib.hid h
 have hle:=h.le
 have hpp : properP l = (decide (n ≤ 64) && l.all pasOK && sortedP l):=by rw [properP,h.len]
 rw [hpp]
 clear hpp h
 have h1:=fun w h => containsPas l A n c w h
 have h2:=fun w h => sortedPas l A n c w h
 generalize l.all pasOK = q1 at h1 ⊢
 generalize sortedP l = q2 at h2 ⊢
 have H1:=Lib.hid h1
 have H2:=Lib.hid h2
 clear h1 h2
 by_cases hn : n ≤ 64
 ·have hd : decide (n ≤ 64) = true:=by simpa using hn
  have hn2 : (n : Int) ≤ 64:=by omega
  rw [hd]
  clear hd
  go_enter Tryz.func23,Tryz.ntmps23
  go_wp2_with fail
  refine (H1.out _ HR.out).mono ?_
  rintro e w2 ⟨rfl,hb⟩
  cases q1
  ·go_wp2
   go_ret
   exact ⟨by simp,hb⟩
  ·go_wp2_with fail
   refine (H2.out _ ((HR.out.below hb).more hb.size)).mono ?_
   rintro e w3 ⟨rfl,hb3⟩
   go_wp2
   go_ret
   exact ⟨by simp,bl_then hb hb3⟩
 ·have hd : decide (n ≤ 64) = false:=by simpa using hn
  have hn2 : ¬ (n : Int) ≤ 64:=by omega
  rw [hd]
  clear hd
  go_enter Tryz.func23,Tryz.ntmps23
  go_wp2
  go_ret
  exact ⟨by simp,(by repeat (first | exact Below.refl _ _ | assumption | refine Below.drew ?_ | refine below_drewN ?_ _ | refine bl_alloc ?_ _ | refine Below.setCell ?_ (by first | (simp; done) | omega | (simp; omega)) _ | refine bl_then ?_ (by assumption)))⟩
end Go.Proofs.YtjidhhfabfnhnaaGreat
namespace Go.Proofs.YtjidhhfabfnhnaaGreat
open Go.RowKit
theorem wpAny_qn {P : Program} {ops : Array Oper} {Q : Exit → Act → World → Prop} : ∀ (fuel : Nat) (listed : Array Bool) (a : Act) (w : World),wpAny P .any ops (Qn (Q .normal)) fuel listed a w → wpAny P .any ops Q fuel listed a w:=by
 intro fuel
 induction fuel with
 | zero => intro listed a w h; exact ⟨h.1,h.2⟩
 | succ n ih =>
  intro listed a w h
  unfold wpAny at h ⊢
  refine ⟨fun e => h.1 e,fun i hi => ?_⟩
  have h2:=h.2 i hi
  unfold wpOp at h2 ⊢
  cases ho : ops[i]? with
  | none => rw [ho] at h2; exact ih _ _ _ h2
  | some o =>
   rw [ho] at h2
   simp only at h2 ⊢
   by_cases hw : Region.wanted o (yielded ops a.tmps) = true
   ·rw [if_pos hw] at h2 ⊢
    rcases h2 with h2 | h2
    ·refine .inl ?_
     unfold Oper.wp at h2 ⊢
     generalize (execOp a.eval o).run P w = r at h2
     cases r with
     | ok n w' =>
      cases n <;> simp only [Oper.upon] at h2 ⊢
      case value v => exact ih _ _ _ h2
      case skip => exact ih _ _ _ h2
      case defer d => exact ih _ _ _ h2
      case enter f args =>
       refine Calls.mono h2 fun e w'' hq => ?_
       cases e with
       | returned v => exact ih _ _ _ hq
       | panicked ch => exact absurd hq (by simp [Qn])
       | outgrown => exact absurd hq (Qn_notOut _)
      case row row args => exact Rows.mono h2 fun v w'' hq => ih _ _ _ hq
      all_goals exact h2
     | halt x w' => cases x <;> simp only [Oper.upon] at h2 ⊢ <;> first | exact h2.elim | exact absurd h2 (by simp [Qn])
    ·exact absurd h2.2 (Qn_notOut _)
   ·rw [if_neg hw] at h2 ⊢
    exact ih _ _ _ h2
def tailP (ops : Array Oper) (m : Nat) (pre : List Nat) : Bool :=
 (List.range (ops.size - m)).all (fun k => match ops[m + k]? with
  | none => false
  | some o => (List.range m).all (fun j => pre.contains j || (closeDown ops m (depsOf o)).contains j))
section
variable {P : Program} {ops : Array Oper} {Q : Exit → Act → World → Prop} {a0 : Act} {w0 : World} {R : Nat → (Nat → Value) → Value → World → Prop} {m : Nat} {pre : List Nat}
theorem chkP_tail (hc : tailP ops m pre = true) {i : Nat} (hi : m ≤ i) (hn : i < ops.size) : ∃ o,ops[i]? = some o ∧ ∀ j,j < m → j ∈ pre ∨ j ∈ closeDown ops m (depsOf o):=by
 unfold tailP at hc
 simp only [List.all_eq_true,List.mem_range] at hc
 have h:=hc (i - m) (by omega)
 rw [show m + (i - m) = i by omega] at h
 cases ho : ops[i]? with
 | none => simp [ho] at h
 | some o =>
  simp only [ho,List.all_eq_true,List.mem_range] at h
  exact ⟨o,rfl,fun j hj => by simpa using h j hj⟩
theorem regM_size (hc : regM ops m = true) : m ≤ ops.size:=by
 unfold regM at hc
 simp only [Bool.and_eq_true,decide_eq_true_iff] at hc
 exact hc.1
theorem wpAny_of_oblP (hc : regM ops m = true) (hT : tailP ops m pre = true) (hst : ∀ i vals v w w',i < m → R i vals v w → Ext w w' → R i vals v w') (hloc : ∀ i vals vals' v w,i < m → (∀ d,anc ops i d = true → vals d = vals' d) → R i vals v w → R i vals' v w) (hob : ∀ i o,i < m → ops[i]? = some o → Obl P ops a0 w0 R i o)
  (hfin : ∀ (vals : Nat → Value) (w : World),Ext w0 w → (∀ i,i < m → R i vals (vals i) w) → wpAny P .any ops Q (ops.size - m) (litL ops.size m) (Lf ops a0 vals m) w) :
  ∀ (c : Nat) (listed : Array Bool) (vals : Nat → Value) (a : Act) (w : World),unl listed m = c → (∀ j ∈ pre,listed.getD j false = true) → Inv ops a0 w0 R m listed vals a w → wpAny P .any ops Q (ops.size - m + c) listed a w:=by
 intro c
 induction c with
 | zero =>
  intro listed vals a w hu hpre hI
  have hall:=unl_zero hu
  have hsz:=regM_size hc
  have hlit : listed = litL ops.size m:=by
   apply Array.ext
   ·simp [litL,hI.size]
   ·intro i h1 h2
    have hg : listed.getD i false = listed[i]:=by simp [Array.getD_eq_getD_getElem?,h1]
    rcases Nat.lt_or_ge i m with h | h
    ·have:=hall i h
     rw [hg] at this
     simp [litL,this,h]
    ·have:=hI.tail i h
     rw [hg] at this
     simp [litL,this,Nat.not_lt.2 h]
  have ha : a = Lf ops a0 vals m:=by
   have ht : a.tmps = (Lf ops a0 vals m).tmps:=by
    apply Array.ext_getElem?
    intro t
    by_cases hj : ∃ j,j < m ∧ dstAt ops j = some t
    ·obtain ⟨j,hjm,hjt⟩:=hj
     obtain ⟨oj,hoj,_,h2j,_⟩:=chk_op4 hc hjm
     have hdj : oj.dst = some t:=by simpa [dstAt,hoj] using hjt
     rcases Nat.lt_or_ge t a0.tmps.size with hlt | hge
     ·rw [hI.inner j t hjm (hall j hjm) hjt hlt,Lf_inner vals m j t hjm hjt (fun k hk1 hk2 => h2j t hdj k hk2 (by omega)) hlt]
     ·rw [Array.getElem?_eq_none (by rw [hI.tsize]; exact hge),Array.getElem?_eq_none (by rw [Lf_size]; exact hge)]
    ·have hj' : ∀ j,j < m → dstAt ops j ≠ some t:=fun j hjm hjt => hj ⟨j,hjm,hjt⟩
     rw [hI.outer t (fun j hjm _ => hj' j hjm),Lf_outer vals m t (fun j hji => hj' j hji)]
   have hd : a.defers = (Lf ops a0 vals m).defers:=by rw [Lf_defers,hI.defers]
   cases a
   cases hL : Lf ops a0 vals m
   simp_all
  rw [hlit,ha]
  exact hfin vals w hI.ext fun i hi => hI.facts i hi (hall i hi)
 | succ c ih =>
  intro listed vals a w hu hpre hI
  have hsz:=regM_size hc
  have hgt : ∀ i,i < listed.size → listed.getD i true = listed.getD i false:=fun i hi => by simp [Array.getD_eq_getD_getElem?,hi]
  obtain ⟨i0,hi0,hun0,hall0⟩:=unl_pos (m:=m) (listed:=listed) (by omega)
  obtain ⟨o0,ho0,hd0,_⟩:=chk_op4 hc hi0
  have hr0 : i0 ∈ Region.ready .any ops listed:=ready_of (by omega) (by rw [hgt _ (by rw [hI.size]; omega)]; exact hun0) ho0 fun d hd => hall0 d (hd0 d hd)
  show wpAny P .any ops Q ((ops.size - m + c) + 1) listed a w
  unfold wpAny
  refine ⟨fun hnil => absurd hr0 (by rw [hnil]; simp),fun i hi => ?_⟩
  obtain ⟨hin,hiu,o,ho,hdl⟩:=ready_spec hi
  have him : i < m:=by
   rcases Nat.lt_or_ge i m with h | h
   ·exact h
   ·obtain ⟨o',ho',ht⟩:=chkP_tail hT h hin
    rw [ho] at ho'
    injection ho' with ho'
    subst ho'
    rcases ht i0 hi0 with hp | hp
    ·have:=hpre i0 hp
     rw [hun0] at this
     cases this
    ·have:=close_listed hI.closed m _ (Nat.le_refl _) hdl i0 hp
     rw [hun0] at this
     cases this
  obtain ⟨o',ho',hdi,hdist,hlook,htame⟩:=chk_op4 hc him
  rw [ho] at ho'
  injection ho' with ho'
  subst ho'
  have hiL : i < listed.size:=by rw [hI.size]; exact hin
  have hiu' : listed.getD i false = false:=by rw [← hgt i hiL]; exact hiu
  have hanc : ∀ d,anc ops i d = true → listed.getD d false = true:=fun d hd => by
   unfold anc at hd
   refine close_listed hI.closed i _ (by omega) (fun d hd => ?_) d (by simpa using hd)
   exact hdl d (by simpa [depsAt,ho] using hd)
  have hltm : ∀ d,listed.getD d false = true → d < m:=fun d hd => by
   rcases Nat.lt_or_ge d m with h | h
   ·exact h
   ·rw [hI.tail d h] at hd; cases hd
  refine run_obl htame (Lf_defers vals i) (agree4 hc hI him ho hdl) ho (hob i o him ho vals w hI.ext (fun d hd => hI.facts d (by have:=hdi d hd; omega) (hdl d hd)) (fun d hd => hI.facts d (hltm d (hanc d hd)) (hanc d hd))) ?_
  intro v w' hext hR
  refine ih _ (fun j => if j = i then slotOf o ((Lf ops a0 vals i).put o.dst v) else vals j) _ _ (by have:=unl_set listed i him hiL hiu'; omega) (fun j hj => by rw [getD_set listed i j hiL]; split; rfl; exact hpre j hj) ?_
  have hdo : dstAt ops i = o.dst:=by simp [dstAt,ho]
  constructor
  ·exact hI.ext.trans hext
  ·simp [hI.size]
  ·intro j hj
   rw [getD_set listed i j hiL,if_neg (by omega)]
   exact hI.tail j hj
  ·intro j hj hl d hd
   rw [getD_set listed i d hiL]
   rw [getD_set listed i j hiL] at hl
   by_cases hji : j = i
   ·subst hji
    have : d ∈ depsOf o:=by simpa [depsAt,ho] using hd
    rw [hdl d this]
    simp
   ·rw [if_neg hji] at hl
    rw [hI.closed j hj hl d hd]
    simp
  ·intro j hj hl
   rw [getD_set listed i j hiL] at hl
   by_cases hji : j = i
   ·subst hji
    simp only [if_true]
    refine hloc j vals _ _ w' hj (fun d hd => ?_) hR
    have hdj : d ≠ j:=fun e => by
     have:=hanc d hd
     rw [e,hiu'] at this
     cases this
    simp [hdj]
   ·rw [if_neg hji] at hl
    simp only [hji,if_false]
    refine hloc j vals _ _ w' hj (fun d hd => ?_) (hst j vals _ w w' hj (hI.facts j hj hl) hext)
    have hdl' : listed.getD d false = true:=by
     unfold anc at hd
     exact close_listed hI.closed j _ (by omega) (fun d hd => hI.closed j hj hl d hd) d (by simpa using hd)
    have hdi' : d ≠ i:=fun e => by
     rw [e,hiu'] at hdl'
     cases hdl'
    simp [hdi']
  ·cases hd : o.dst <;> simp [Act.put,hI.defers]
  ·cases hd : o.dst <;> simp [Act.put,hI.tsize]
  ·intro t ht
   rw [put_get,if_neg (by rw [← hdo]; exact ht i him (by rw [getD_set listed i i hiL,if_pos rfl]))]
   refine hI.outer t fun j hj hl => ht j hj ?_
   rw [getD_set listed i j hiL]
   split
   ·rfl
   ·exact hl
  ·intro j t hj hl hdj htl
   rw [put_get]
   by_cases hji : j = i
   ·subst hji
    rw [hdo] at hdj
    rw [if_pos hdj,if_pos (by rw [hI.tsize]; exact htl)]
    have h2:=put_get (Lf ops a0 vals j) o.dst v t
    rw [if_pos hdj,if_pos (by rw [Lf_size]; exact htl)] at h2
    simp only [if_true,slotOf,hdj,Array.getD_eq_getD_getElem?]
    rw [hdj] at h2
    rw [h2]
    rfl
   ·rw [getD_set listed i j hiL,if_neg hji] at hl
    rw [if_neg (fun e => hdist t e j hj hji hdj)]
    simp only [hji,if_false]
    exact hI.inner j t hj hl hdj htl
def preVals : List (Nat × Value) → Nat → Value
 | [],_ => undef
 | (i,v) :: r,j => if j = i then v else preVals r j
def putPre (ops : Array Oper) : List (Nat × Value) → Act → Act
 | [],a => a
 | (i,v) :: r,a => putPre ops r (a.put (dstAt ops i) v)
def setPre : List (Nat × Value) → Array Bool → Array Bool
 | [],l => l
 | (i,_) :: r,l => setPre r (l.setIfInBounds i true)
theorem setPre_size (L : List (Nat × Value)) : ∀ l : Array Bool,(setPre L l).size = l.size:=by
 induction L with
 | nil => intro l; rfl
 | cons x r ih => intro l; obtain ⟨i,v⟩:=x; unfold setPre; rw [ih]; simp
theorem setPre_get (L : List (Nat × Value)) : ∀ (l : Array Bool) (j : Nat),(∀ x ∈ L,x.1 < l.size) → (setPre L l).getD j false = (decide (j ∈ L.map (·.1)) || l.getD j false):=by
 induction L with
 | nil => intro l j _; simp [setPre]
 | cons x r ih =>
  intro l j h
  obtain ⟨i,v⟩:=x
  have hi : i < l.size:=h _ (List.mem_cons_self ..)
  unfold setPre
  rw [ih _ _ (fun y hy => by simpa using h y (List.mem_cons_of_mem _ hy)),getD_set l i j hi]
  by_cases hji : j = i
  ·simp [hji]
  ·rw [if_neg hji]; congr 1; simp [hji]
theorem putPre_defers (L : List (Nat × Value)) : ∀ a : Act,(putPre ops L a).defers = a.defers:=by
 induction L with
 | nil => intro a; rfl
 | cons x r ih => intro a; obtain ⟨i,v⟩:=x; unfold putPre; rw [ih]; cases dstAt ops i <;> simp [Act.put]
theorem putPre_size (L : List (Nat × Value)) : ∀ a : Act,(putPre ops L a).tmps.size = a.tmps.size:=by
 induction L with
 | nil => intro a; rfl
 | cons x r ih => intro a; obtain ⟨i,v⟩:=x; unfold putPre; rw [ih]; cases dstAt ops i <;> simp [Act.put]
theorem putPre_outer (L : List (Nat × Value)) : ∀ (a : Act) (t : Nat),(∀ x ∈ L,dstAt ops x.1 ≠ some t) → (putPre ops L a).tmps[t]? = a.tmps[t]?:=by
 induction L with
 | nil => intro a t _; rfl
 | cons x r ih =>
  intro a t h
  obtain ⟨i,v⟩:=x
  unfold putPre
  rw [ih _ _ (fun y hy => h y (List.mem_cons_of_mem _ hy)),put_get,if_neg (h _ (List.mem_cons_self ..))]
theorem putPre_inner (L : List (Nat × Value)) : ∀ (a : Act) (j t : Nat),j ∈ L.map (·.1) → dstAt ops j = some t → (∀ x ∈ L,x.1 ≠ j → dstAt ops x.1 ≠ some t) → t < a.tmps.size → (L.map (·.1)).Nodup → (putPre ops L a).tmps[t]? = some (preVals L j):=by
 induction L with
 | nil => intro a j t h; cases h
 | cons x r ih =>
  intro a j t hj hd hne ht hnd
  obtain ⟨i,v⟩:=x
  unfold putPre preVals
  have hn:=List.nodup_cons.1 hnd
  by_cases hji : j = i
  ·subst hji
   rw [if_pos rfl,putPre_outer r _ t (fun y hy => hne y (List.mem_cons_of_mem _ hy) (fun e => hn.1 (List.mem_map.2 ⟨y,hy,e⟩))),put_get,if_pos hd,if_pos ht]
  ·rw [if_neg hji]
   have hj' : j ∈ r.map (·.1):=by simpa [hji] using hj
   exact ih _ j t hj' hd (fun y hy => hne y (List.mem_cons_of_mem _ hy)) (by cases dstAt ops i <;> simpa [Act.put] using ht) hn.2
def PreOK (P : Program) (ops : Array Oper) : List (Nat × Value) → Array Bool → Act → Prop
 | [],_,_ => True
 | (i,v) :: r,l,a => (∃ o,ops[i]? = some o ∧ Region.free .any ops l i = true ∧ (Region.ready .any ops l).contains i = true ∧ Yields P ops o v a) ∧ PreOK P ops r (l.setIfInBounds i true) (a.put (dstAt ops i) v)
theorem wpAny_pre (hs : Region.noSelect ops = true) {K : Act → World → Prop} (L : List (Nat × Value)) : ∀ (fuel : Nat) (l : Array Bool) (a : Act) (w : World),PreOK P ops L l a → wpAny P .any ops (Qn K) fuel (setPre L l) (putPre ops L a) w → wpAny P .any ops (Qn K) (fuel + L.length) l a w:=by
 induction L with
 | nil => intro fuel l a w _ h; exact h
 | cons x r ih =>
  intro fuel l a w hp h
  obtain ⟨i,v⟩:=x
  obtain ⟨⟨o,ho,hf,hr,hy⟩,hp2⟩:=hp
  have hd : dstAt ops i = o.dst:=by simp [dstAt,ho]
  rw [hd] at hp2
  refine wpAny_take (fuel:=fuel + r.length) ho hs hf hr (fun c a w h => h) hy (ih fuel _ _ w hp2 ?_)
  unfold setPre putPre at h
  rw [hd] at h
  exact h
theorem filter_split {α : Type} (l : List α) (p : α → Bool) : l.length = (l.filter (fun i => !p i)).length + (l.filter p).length:=by
 induction l with
 | nil => rfl
 | cons x r ih => cases h : p x <;> simp [h] <;> omega
def preChk (ops : Array Oper) (m : Nat) (js : List Nat) : Bool:=js.all (fun j => decide (j < m) && (depsAt ops j).all (fun d => js.contains d)) && decide js.Nodup
theorem wp_region_pre {id : Nat} {a : Act} {w : World} (m : Nat) (L : List (Nat × Value)) (R : Nat → (Nat → Value) → Value → World → Prop) (hm : P.follows .mixedOrders = true) (hc : regM ops m = true) (hT : tailP ops m (L.map (·.1)) = true) (hs : Region.noSelect ops = true) (hpc : preChk ops m (L.map (·.1)) = true)
  (hpo : PreOK P ops L (Array.replicate ops.size false) a) (hpr : ∀ j ∈ L.map (·.1),∀ vals w,R j vals (preVals L j) w)
  (hst : ∀ i vals v w w',i < m → R i vals v w → Ext w w' → R i vals v w') (hloc : ∀ i vals vals' v w,i < m → (∀ d,anc ops i d = true → vals d = vals' d) → R i vals v w → R i vals' v w)
  (hob : Obls P ops a w.drew R 0 (ops.toList.take m))
  (hfin : ∀ (vals : Nat → Value) (w' : World),Ext w.drew w' → (∀ i,i < m → R i vals (vals i) w') → wpAny P .any ops (Qn (Q .normal)) (ops.size - m) (litL ops.size m) (Lf ops a vals m) w') : (Code.region id ops true).wp P Q a w:=by
 refine wp_region_any hm (wpAny_qn _ _ _ _ ?_)
 have hsz:=regM_size hc
 unfold preChk at hpc
 simp only [Bool.and_eq_true,List.all_eq_true,decide_eq_true_iff] at hpc
 obtain ⟨hpc,hnd⟩:=hpc
 have hpm : ∀ x ∈ L,x.1 < m:=fun x hx => (hpc x.1 (List.mem_map_of_mem hx)).1
 have hsize : ∀ x ∈ L,x.1 < (Array.replicate ops.size false).size:=fun x hx => by have:=hpm x hx; simp; omega
 have hf : ∀ i,(Array.replicate ops.size false).getD i false = false:=fun i => by simp [Array.getD_eq_getD_getElem?,Array.getElem?_replicate]; split <;> rfl
 have hget : ∀ j,(setPre L (Array.replicate ops.size false)).getD j false = decide (j ∈ L.map (·.1)):=fun j => by rw [setPre_get L _ j hsize,hf,Bool.or_false]
 obtain ⟨c,hcu⟩ : ∃ c,c = unl (setPre L (Array.replicate ops.size false)) m:=⟨_,rfl⟩
 have hlen : ops.size = ops.size - m + c + L.length:=by
  have h1 : (List.range m).length = ((List.range m).filter (fun i => !decide (i ∈ L.map (·.1)))).length + ((List.range m).filter (fun i => decide (i ∈ L.map (·.1)))).length:=by
   exact filter_split _ _
  have h2 : c = ((List.range m).filter (fun i => !decide (i ∈ L.map (·.1)))).length:=by rw [hcu,unl]; congr 1; exact List.filter_congr fun j _ => by rw [hget]
  have h3 : ((List.range m).filter (fun i => decide (i ∈ L.map (·.1)))).length = L.length:=by
   have hp : ((List.range m).filter (fun i => decide (i ∈ L.map (·.1)))).Perm (L.map (·.1)):=by
    refine (List.perm_ext_iff_of_nodup (List.nodup_range.filter _) hnd).2 fun j => ?_
    rw [List.mem_filter,List.mem_range,decide_eq_true_iff]
    exact ⟨fun h => h.2,fun h => ⟨(hpc j h).1,h⟩⟩
   rw [hp.length_eq,List.length_map]
  rw [List.length_range] at h1
  omega
 have h:=wpAny_of_oblP (P:=P) (Q:=Qn (Q .normal)) (a0:=a) (w0:=w.drew) (pre:=L.map (·.1)) hc hT hst hloc (fun i o hi ho => by
  have:=obls_at (P:=P) (ops:=ops) (a0:=a) (w0:=w.drew) (R:=R) _ 0 hob i o (by rw [List.getElem?_take,if_pos hi]; simpa using ho)
  simpa using this) hfin c (setPre L (Array.replicate ops.size false)) (preVals L) (putPre ops L a) w.drew hcu.symm (fun j hj => by rw [hget]; simpa using hj) ?_
 ·have h4:=wpAny_pre (P:=P) hs L (ops.size - m + c) (Array.replicate ops.size false) a w.drew hpo h
  rw [← hlen] at h4
  exact h4
 ·constructor
  ·exact Ext.refl _
  ·rw [setPre_size]; simp
  ·intro i hi
   rw [hget]
   simp only [decide_eq_false_iff_not]
   intro hmem
   have:=(hpc i hmem).1
   omega
  ·intro i hi hl d hd
   rw [hget] at hl ⊢
   have:=(hpc i (by simpa using hl)).2 d hd
   simpa using this
  ·intro i hi hl
   rw [hget] at hl
   exact hpr i (by simpa using hl) _ _
  ·exact putPre_defers _ _
  ·exact putPre_size _ _
  ·intro t ht
   refine putPre_outer L a t fun x hx => ?_
   exact ht x.1 (hpm x hx) (by rw [hget]; simpa using ⟨x.2,hx⟩)
  ·intro i t hi hl hd htl
   rw [hget] at hl
   obtain ⟨oi,hoi,_,hdist,_⟩:=chk_op4 hc hi
   have hdi : oi.dst = some t:=by simpa [dstAt,hoi] using hd
   exact putPre_inner L a i t (by simpa using hl) hd (fun x hx hne => hdist t hdi x.1 (hpm x hx) hne) htl hnd
end
theorem yields_move {P : Program} {ops : Array Oper} {o : Oper} {a : Act} {x : Operand} {v : Value} (ho : o.op = .move x) (hg : o.guard = none) (hv : a.eval x = v) : Yields P ops o v a :=
 .inl ⟨by simp [Region.wanted,hg],fun w => by simp [execOp,ho,hv]⟩
end Go.Proofs.YtjidhhfabfnhnaaGreat
namespace Go.Proofs.YtjidhhfabfnhnaaGreat
open Go.RowKit
theorem gb_trans {a b c : World} {row : Option Nat} (h : a.grownBy b row) (k : b.grownBy c row) : a.grownBy c row :=
 ⟨k.os.trans h.os,k.tape.trans h.tape,k.output.trans h.output,Nat.le_trans h.size k.size,fun j hj hr => (k.block j (Nat.lt_of_lt_of_le hj h.size) hr).trans (h.block j hj hr)⟩
theorem grown_ext {a b : World} {row : Option Nat} (h : Ext a b) : a.grownBy b row:=⟨h.os,h.tape,h.output,h.size,fun j hj _ => h.block j hj⟩
theorem grown_refl (a : World) (row : Option Nat) : a.grownBy a row:=grown_ext (Ext.refl a)
section
variable {α : Type} {cells : α → List Value} {s : Nat}
theorem flat_len_ (hs : ∀ x,(cells x).length = s) (l : List α) : (l.flatMap cells).length = l.length * s:=by
 induction l with
 | nil => simp
 | cons x r ih => rw [List.flatMap_cons,List.length_append,ih,hs,List.length_cons,Nat.succ_mul]; omega
theorem flat_at_ (hs : ∀ x,(cells x).length = s) (l : List α) (k : Nat) (h : k < l.length) (j : Nat) (hj : j < s) : (l.flatMap cells)[k * s + j]? = (cells l[k])[j]?:=by
 induction l generalizing k with
 | nil => simp at h
 | cons x r ih =>
  rw [List.flatMap_cons]
  cases k with
  | zero => rw [Nat.zero_mul,Nat.zero_add,List.getElem?_append_left (by rw [hs]; exact hj)]; rfl
  | succ k =>
   rw [List.getElem?_append_right (by rw [hs,Nat.succ_mul]; omega),hs,show (k + 1) * s + j - s = k * s + j by rw [Nat.succ_mul]; omega]
   exact ih k (by simpa using h)
theorem flat_set (hs : ∀ x,(cells x).length = s) (l : List α) (i : Nat) (hi : i < l.length) (x : α) : (l.set i x).flatMap cells = (l.flatMap cells).take (i * s) ++ cells x ++ (l.flatMap cells).drop (i * s + s):=by
 induction l generalizing i with
 | nil => simp at hi
 | cons y r ih =>
  cases i with
  | zero =>
   rw [List.set_cons_zero,List.flatMap_cons,List.flatMap_cons,Nat.zero_mul,List.take_zero,List.nil_append,Nat.zero_add,List.drop_append_of_le_length (by rw [hs]; exact Nat.le_refl _),List.drop_of_length_le (by rw [hs]; exact Nat.le_refl _),List.nil_append]
  | succ i =>
   have hi' : i < r.length:=by simpa using hi
   have e1 : List.take (i * s + s) (cells y ++ r.flatMap cells) = cells y ++ List.take (i * s) (r.flatMap cells):=by
    rw [List.take_append,List.take_of_length_le (l:=cells y) (by rw [hs]; omega),hs,show i * s + s - s = i * s by omega]
   have e2 : List.drop (i * s + s + s) (cells y ++ r.flatMap cells) = List.drop (i * s + s) (r.flatMap cells):=by
    rw [List.drop_append,List.drop_of_length_le (l:=cells y) (by rw [hs]; omega),hs,show i * s + s + s - s = i * s + s by omega,List.nil_append]
   rw [List.set_cons_succ,List.flatMap_cons,List.flatMap_cons,ih i hi',Nat.succ_mul,e1,e2]
   simp
end
def RowS {α : Type} (cells : α → List Value) (s : Nat) (base : Nat) (e : TypeId) (g n c : Nat) (w : World) (l : List α) : Prop :=
 l.length = n ∧ w.ownsRow base e s (.slice (some ⟨g,0,none⟩) n c) n (l.flatMap cells)
section
variable {α : Type} {cells : α → List Value} {s base : Nat} {e : TypeId} {g n c : Nat} {w w' : World} {l : List α}
theorem RowS.lt (h : RowS cells s base e g n c w l) : g < w.heap.size:=(World.ownsRow.lt h.2 g rfl).2
theorem RowS.le (h : RowS cells s base e g n c w l) : n ≤ c ∧ c ≤ maxLen:=by
 obtain ⟨_,_,hv,h1,h2⟩:=own_slice h.2
 injection hv with _ _ hv
 subst hv
 exact ⟨h1,h2⟩
theorem RowS.ext (h : RowS cells s base e g n c w l) (hx : Ext w w') : RowS cells s base e g n c w' l:=⟨h.1,own_ext h.2 hx⟩
theorem RowS.range (hs : ∀ x,(cells x).length = s) (h : RowS cells s base e g n c w l) {k : Nat} (hk : k < l.length) : w.rangeAt g (k * s) (cells l[k]):=fun j v hv => by
 have hj : j < s:=by rw [← hs l[k]]; exact (List.getElem?_eq_some_iff.1 hv).1
 have h1 : k * s + j < n * s:=by
  have:=Nat.mul_le_mul_right s (show k + 1 ≤ n by have:=h.1; omega)
  rw [Nat.succ_mul] at this
  omega
 rw [h.2.cellAt _ h1,flat_at_ hs l k hk j hj]
 exact hv
theorem RowS.there (hs : ∀ x,(cells x).length = s) (h : RowS cells s base e g n c w l) {k : Nat} (hk : k < l.length) : w.there g (k * s) s:=fun j hj => by
 have h1 : k * s + j < n * s:=by
  have:=Nat.mul_le_mul_right s (show k + 1 ≤ n by have:=h.1; omega)
  rw [Nat.succ_mul] at this
  omega
 refine ⟨?_,h.2.frozenAt _⟩
 rw [h.2.cellAt _ h1,flat_at_ hs l k hk j hj]
 simp [hs,hj]
theorem own_setCells (vs : List Value) : ∀ (o : Nat) (w : World) (xs : List Value),w.ownsRow base e s (.slice (some ⟨g,0,none⟩) n c) n xs → o + vs.length ≤ xs.length →
  (w.setCells g o vs).ownsRow base e s (.slice (some ⟨g,0,none⟩) n c) n (xs.take o ++ vs ++ xs.drop (o + vs.length)) ∧ w.grownBy (w.setCells g o vs) (some g):=by
 induction vs with
 | nil => intro o w xs h _; exact ⟨by simpa [World.setCells] using h,grown_refl _ _⟩
 | cons v r ih =>
  intro o w xs h ho
  simp only [List.length_cons] at ho
  obtain ⟨h1,h2⟩:=h.stored o v
  obtain ⟨h3,h4⟩:=ih (o + 1) _ _ h1 (by simp; omega)
  refine ⟨?_,gb_trans h2 h4⟩
  have he : (xs.set o v).take (o + 1) ++ r ++ (xs.set o v).drop (o + 1 + r.length) = xs.take o ++ (v :: r) ++ xs.drop (o + (v :: r).length):=by
   rw [List.drop_set_of_lt (by omega),List.take_set,show xs.take (o + 1) = xs.take o ++ [xs[o]] from List.take_succ_eq_append_getElem (by omega)]
   rw [List.set_append_right _ _ (by simp; omega)]
   have : o - (xs.take o).length = 0:=by simp; omega
   rw [this,List.set_cons_zero,List.length_cons,show o + 1 + r.length = o + (r.length + 1) by omega]
   simp
  rw [← he]
  exact h3
theorem RowS.store (hs : ∀ x,(cells x).length = s) (h : RowS cells s base e g n c w l) {k : Nat} (hk : k < l.length) (x : α) : RowS cells s base e g n c (w.setCells g (k * s) (cells x)) (l.set k x) ∧ w.grownBy (w.setCells g (k * s) (cells x)) (some g):=by
 have hlen : k * s + (cells x).length ≤ (l.flatMap cells).length:=by
  rw [hs,flat_len_ hs]
  have:=Nat.mul_le_mul_right s (show k + 1 ≤ l.length by omega)
  rw [Nat.succ_mul] at this
  exact this
 obtain ⟨h1,h2⟩:=own_setCells (cells x) (k * s) w _ h.2 hlen
 refine ⟨⟨by simpa using h.1,?_⟩,h2⟩
 rw [hs] at h1
 rw [flat_set hs l k hk x]
 exact h1
end
theorem wpList_store_st {P : Program} {ops : Array Oper} {rest : List Oper} {op : Oper} {a : Act} {w : World} {Q : Exit → Act → World → Prop} (hgd : op.guard = none) (ty : TypeId) (x y : Operand) (ho : op.op = .store ty x y)
  (b o : Nat) (X : Array Value) (cs : List Value) (hX : cs.toArray = X) (hx : a.eval x = .pointer (some ⟨b,o,none⟩)) (hy : a.eval y = .agg X)
  (ht : w.there b o cs.length) (hi : (P.info? ty).map (·.size) = some cs.length) (h1 : ∀ v ∈ cs,v.oneCell' = true)
  (h : wpList P ops Q rest (a.put op.dst undef) (w.setCells b o cs)) : wpList P ops Q (op :: rest) a w:=by
 subst hX
 exact wpList_store_mid hgd ty x y ho b o cs.toArray hx hy (by simpa using ht) (by simpa using hi) (all_oneCell_toArray h1) (by simpa using h)
theorem yields_sub {P : Program} {ops : Array Oper} {o : Oper} {a : Act} {t : TypeId} {x y : Operand} {p q r : Int} (ho : o.op = .binOp .sub t x y t) (hg : o.guard = none) (hx : a.eval x = .int .i64 p) (hy : a.eval y = .int .i64 q) (hr : IntKind.i64.wrap (p - q) = r) : Yields P ops o (.int .i64 r) a :=
 .inl ⟨by simp [Region.wanted,hg],fun w => by
  simp only [execOp,ho,hx,hy]
  simp [go_sem,hr]⟩
end Go.Proofs.YtjidhhfabfnhnaaGreat
namespace Go.Proofs.YtjidhhfabfnhnaaGreat
instance : DecidableEq Orb:=fun a b => decidable_of_iff (a.period = b.period ∧ a.phase = b.phase ∧ a.low = b.low ∧ a.high = b.high ∧ a.node = b.node ∧ a.turn = b.turn ∧ a.slack = b.slack) (by cases a; cases b; simp)
structure Upd where
 sat : Int
 fr : Int
 kn : Int
 orb : Orb
structure Str where
 sp : Spl
 orb : Orb
instance : DecidableEq Str:=fun a b => decidable_of_iff (a.sp = b.sp ∧ a.orb = b.orb) (by cases a; cases b; simp)
def chU (sat kn t : Int) (u : Upd) : Bool:=u.sat == sat && decide (u.kn ≤ kn) && decide (u.fr ≤ t)
def nxU (sat kn t : Int) (b : Option Upd) (u : Upd) : Option Upd:=if (chU sat kn t u && (match b with | none => true | some v => decide (v.fr ≤ u.fr))) = true then some u else b
def bestU (sat kn t : Int) : List Upd → Option Upd → Option Upd
 | [],b => b
 | u :: r,b => bestU sat kn t r (nxU sat kn t b u)
def orbE (x : St) (l : List Upd) (kn t : Int) : Orb:=match bestU x.id kn t l none with
 | none => x.orbit
 | some u => u.orb
def strP (f : Int → Orb) (t : Int) : Nat → List Str
 | 0 => []
 | n + 1 => match strP f (t + 1) n with
  | [] => [⟨⟨t,t + 1⟩,f t⟩]
  | s :: r => if s.orb = f t then ⟨⟨t,s.sp.tt⟩,f t⟩ :: r else ⟨⟨t,t + 1⟩,f t⟩ :: s :: r
def updOK (u : Upd) : Bool:=inB u.fr 0 1000000 && inB u.kn 0 1000000 && orbOK u.orb
def updsR (ids : List Int) : Option Int → List Upd → Bool
 | _,[] => true
 | p,u :: r => decide (u.sat ∈ ids) && updOK u && (match p with | none => true | some k => decide (k ≤ u.kn)) && updsR ids (some u.kn) r
def validE (sats : List St) (l : List Upd) : Bool:=updsR (sats.map (·.id)) none l && decide (l.length ≤ 24) && satsOK sats
def ownU (id : Int) (l : List Upd) : List Upd:=l.filter (fun u => u.sat == id)
def validS (x : St) (l : List Upd) : Bool:=validE [x] (ownU x.id l)
def spanE (s : Spl) : Bool:=decide (0 ≤ s.fr ∧ s.fr < s.tt ∧ s.tt ≤ 1000000 ∧ s.tt - s.fr ≤ 1440)
def orbitE (x : St) (l : List Upd) (t kn : Int) : Option Orb:=if (inB t 0 1000000 && validS x l) = true then some (orbE x l kn t) else none
def strE (x : St) (l : List Upd) (s : Spl) (kn : Int) : List Str:=strP (orbE x l kn) s.fr (s.tt - s.fr).toNat
def stretchesE (x : St) (l : List Upd) (s : Spl) (kn : Int) : Option (List Str):=if (spanE s && validS x l) = true then some (strE x l s kn) else none
theorem str_head (f : Int → Orb) (n : Nat) (t : Int) : ∃ s r,strP f t (n + 1) = s :: r ∧ s.sp.fr = t ∧ s.orb = f t:=by
 rw [strP]
 split
 ·exact ⟨_,_,rfl,rfl,rfl⟩
 ·split
  ·exact ⟨_,_,rfl,rfl,rfl⟩
  ·exact ⟨_,_,rfl,rfl,rfl⟩
theorem str_run (f : Int → Orb) (k : Nat) : ∀ (n : Nat) (t : Int),1 ≤ k → k ≤ n → (∀ i : Nat,i < k → f (t + i) = f t) → (k = n ∨ f (t + k) ≠ f t) →
  strP f t n = ⟨⟨t,t + k⟩,f t⟩ :: strP f (t + k) (n - k):=by
 induction k with
 | zero => intro n t h; omega
 | succ k ih =>
  intro n t _ hn hi hs
  obtain ⟨n,rfl⟩ : ∃ m,n = m + 1:=⟨n - 1,by omega⟩
  rcases Nat.eq_zero_or_pos k with rfl | hk
  ·have e1 : t + ((0 + 1 : Nat) : Int) = t + 1:=by omega
   rw [e1] at hs ⊢
   rw [show n + 1 - (0 + 1) = n by omega,strP]
   rcases n with _ | n
   ·rfl
   ·obtain ⟨s,r,e2,e3,e4⟩:=str_head f n (t + 1)
    rw [e2]
    dsimp only
    rw [e4,if_neg (by rcases hs with h | h; omega; exact h)]
  ·have h1:=hi 1 (by omega)
   have e1 : t + ((1 : Nat) : Int) = t + 1:=by omega
   rw [e1] at h1
   have hrec:=ih n (t + 1) hk (by omega) (fun i hik => by have:=hi (i + 1) (by omega); rw [h1,show t + 1 + (i : Int) = t + ((i + 1 : Nat) : Int) by omega]; exact this) (by
    rcases hs with hs | hs
    ·exact .inl (by omega)
    ·refine .inr ?_
     rw [h1,show t + 1 + (k : Int) = t + ((k + 1 : Nat) : Int) by omega]; exact hs)
   rw [strP,hrec,show t + 1 + (k : Int) = t + ((k + 1 : Nat) : Int) by omega,show n + 1 - (k + 1) = n - k by omega]
   dsimp only
   rw [if_pos h1]
theorem str_len (f : Int → Orb) (n : Nat) : ∀ t,(strP f t n).length ≤ n:=by
 induction n with
 | zero => intro t; exact Nat.le_refl _
 | succ n ih =>
  intro t
  have h:=ih (t + 1)
  unfold strP
  split
  ·simp
  ·rename_i s r hx
   rw [hx] at h
   split <;> simp at h ⊢ <;> omega
end Go.Proofs.YtjidhhfabfnhnaaGreat
namespace Go.Proofs.YtjidhhfabfnhnaaGreat
open Go.RowKit
def orbCells (o : Orb) : List Value:=[.int .i64 o.period,.int .i64 o.phase,.int .i64 o.low,.int .i64 o.high,.int .i64 o.node,.int .i64 o.turn,.int .i64 o.slack]
def updCells (u : Upd) : List Value:=[.int .i64 u.sat,.int .i64 u.fr,.int .i64 u.kn,.int .i64 u.orb.period,.int .i64 u.orb.phase,.int .i64 u.orb.low,.int .i64 u.orb.high,.int .i64 u.orb.node,.int .i64 u.orb.turn,.int .i64 u.orb.slack]
def strCells (s : Str) : List Value:=[.int .i64 s.sp.fr,.int .i64 s.sp.tt,.int .i64 s.orb.period,.int .i64 s.orb.phase,.int .i64 s.orb.low,.int .i64 s.orb.high,.int .i64 s.orb.node,.int .i64 s.orb.turn,.int .i64 s.orb.slack]
def pthCells (x : St) (A : Option Addr) (n c : Nat) (kn : Int) : List Value:=satCells x ++ [.slice A n c,.int .i64 kn]
theorem upd_len (u : Upd) : (updCells u).length = 10:=rfl
theorem str_len_ (s : Str) : (strCells s).length = 9:=rfl
theorem upd_size : (Tryz.prog.info? 66).map (·.size) = some 10:=by kernel_rfl
theorem str_size : (Tryz.prog.info? 96).map (·.size) = some 9:=by kernel_rfl
theorem pth_size : (Tryz.prog.info? 117).map (·.size) = some 23:=by kernel_rfl
theorem upd_one (u : Upd) : (updCells u).toArray.all (·.oneCell') = true:=by simp [updCells,Value.oneCell']
theorem str_one (s : Str) : (strCells s).toArray.all (·.oneCell') = true:=by simp [strCells,Value.oneCell']
theorem orb_one (o : Orb) : (orbCells o).toArray.all (·.oneCell') = true:=by simp [orbCells,Value.oneCell']
theorem pth_one (x : St) (A : Option Addr) (n c : Nat) (kn : Int) : (pthCells x A n c kn).toArray.all (·.oneCell') = true:=by simp [pthCells,satCells,Value.oneCell']
theorem eIn_any (n lo hi : Int) (w : World) :
  Calls Tryz.prog 51 #[.int .i64 n,.int .i64 lo,.int .i64 hi] w fun e w' => e = .returned (.bool (inB n lo hi)) ∧ w = w':=by
 by_cases h1 : lo ≤ n
 ·have e : inB n lo hi = decide (n ≤ hi):=by simp [inB,h1]
  rw [e]
  go_enter Tryz.func51,Tryz.ntmps51
  go_wp2
  go_ret
  exact ⟨by first | rfl | simp [*],rfl⟩
 ·have e : inB n lo hi = false:=by simp [inB,h1]
  rw [e]
  go_enter Tryz.func51,Tryz.ntmps51
  go_wp2
  go_ret
  exact ⟨rfl,rfl⟩
theorem eSpan_any (a b : Int) (w : World) :
  Calls Tryz.prog 46 #[.agg #[.int .i64 a,.int .i64 b]] w fun e w' => e = .returned (.bool (spanE ⟨a,b⟩)) ∧ Ext w w':=by
 by_cases h : 0 ≤ a ∧ a < b ∧ b ≤ 1000000
 ·obtain ⟨h1,h2,h3⟩:=h
  have hs : spanE ⟨a,b⟩ = decide (b - a ≤ 1440):=by simp [spanE,h1,h2,h3]
  rw [hs]
  clear hs
  go_enter Tryz.func46,Tryz.ntmps46
  go_wp2
  go_ret
  exact ⟨by simp [*],(by repeat (first | exact Below.refl _ _ | assumption | refine Below.drew ?_ | refine below_drewN ?_ _ | refine bl_alloc ?_ _ | refine Below.setCell ?_ (by first | (simp; done) | omega | (simp; omega)) _ | refine bl_then ?_ (by assumption)))⟩
 ·have hs : spanE ⟨a,b⟩ = false:=by
   simp only [spanE,decide_eq_false_iff_not]
   omega
  rw [hs]
  clear hs
  by_cases h1 : 0 ≤ a
  ·by_cases h2 : a < b
   ·have h3 : ¬ b ≤ 1000000:=by omega
    clear h
    go_enter Tryz.func46,Tryz.ntmps46
    go_wp2
    go_ret
    exact ⟨by simp [*],(by repeat (first | exact Below.refl _ _ | assumption | refine Below.drew ?_ | refine below_drewN ?_ _ | refine bl_alloc ?_ _ | refine Below.setCell ?_ (by first | (simp; done) | omega | (simp; omega)) _ | refine bl_then ?_ (by assumption)))⟩
   ·clear h
    go_enter Tryz.func46,Tryz.ntmps46
    go_wp2
    go_ret
    exact ⟨by simp [*],(by repeat (first | exact Below.refl _ _ | assumption | refine Below.drew ?_ | refine below_drewN ?_ _ | refine bl_alloc ?_ _ | refine Below.setCell ?_ (by first | (simp; done) | omega | (simp; omega)) _ | refine bl_then ?_ (by assumption)))⟩
  ·clear h
   go_enter Tryz.func46,Tryz.ntmps46
   go_wp2
   go_ret
   exact ⟨by simp [*],(by repeat (first | exact Below.refl _ _ | assumption | refine Below.drew ?_ | refine below_drewN ?_ _ | refine bl_alloc ?_ _ | refine Below.setCell ?_ (by first | (simp; done) | omega | (simp; omega)) _ | refine bl_then ?_ (by assumption)))⟩
theorem ch_any (u : Upd) (gp gt : Nat) (id kn t : Int) (w : World) (P : Array Value) (kp : Blk w gp 117 P) (p0 : P[0]? = some (.int .i64 id)) (p22 : P[22]? = some (.int .i64 kn)) (kt : Blk w gt 3 #[.int .i64 t]) :
  Calls Tryz.prog 112 #[.agg (updCells u).toArray,.pointer (some ⟨gp,0,none⟩),.pointer (some ⟨gt,0,none⟩)] w fun e w' => e = .returned (.bool (chU id kn t u)) ∧ Ext w w':=by
 obtain ⟨us,uf,uk,⟨p,f,lo,hi,no,tu,sl⟩⟩:=u
 show Calls Tryz.prog 112 #[.agg #[.int .i64 us,.int .i64 uf,.int .i64 uk,.int .i64 p,.int .i64 f,.int .i64 lo,.int .i64 hi,.int .i64 no,.int .i64 tu,.int .i64 sl],_,_] w _
 have hx : Ext w (w.alloc (.cells #[.int .i64 us,.int .i64 uf,.int .i64 uk,.int .i64 p,.int .i64 f,.int .i64 lo,.int .i64 hi,.int .i64 no,.int .i64 tu,.int .i64 sl] 66)):=bl_alloc (Below.refl _ _) _
 have c0 : (w.alloc (.cells #[.int .i64 us,.int .i64 uf,.int .i64 uk,.int .i64 p,.int .i64 f,.int .i64 lo,.int .i64 hi,.int .i64 no,.int .i64 tu,.int .i64 sl] 66)).cell? ⟨gp,0,none⟩ = some (.int .i64 id):=by rw [(kp.ext hx).cell]; exact p0
 have c22 : (w.alloc (.cells #[.int .i64 us,.int .i64 uf,.int .i64 uk,.int .i64 p,.int .i64 f,.int .i64 lo,.int .i64 hi,.int .i64 no,.int .i64 tu,.int .i64 sl] 66)).cell? ⟨gp,22,none⟩ = some (.int .i64 kn):=by rw [(kp.ext hx).cell]; exact p22
 have ct : (w.alloc (.cells #[.int .i64 us,.int .i64 uf,.int .i64 uk,.int .i64 p,.int .i64 f,.int .i64 lo,.int .i64 hi,.int .i64 no,.int .i64 tu,.int .i64 sl] 66)).cell? ⟨gt,0,none⟩ = some (.int .i64 t):=(kt.ext hx).cell 0
 have J:=Blk.new w 66 #[.int .i64 us,.int .i64 uf,.int .i64 uk,.int .i64 p,.int .i64 f,.int .i64 lo,.int .i64 hi,.int .i64 no,.int .i64 tu,.int .i64 sl]
 have HX:=Lib.hid hx
 clear hx kp kt p0 p22
 by_cases h1 : us = id
 ·have h1b : (us == id) = true:=by simpa using h1
  by_cases h2 : uk ≤ kn
  ·have e : chU id kn t ⟨us,uf,uk,⟨p,f,lo,hi,no,tu,sl⟩⟩ = decide (uf ≤ t):=by simp [chU,h1,h2]
   rw [e]
   clear e h1
   go_enter Tryz.func112,Tryz.ntmps112
   go_upto_region 1 with (fail)
   generalize w.alloc _ = W at J c0 c22 ct HX ⊢
   generalize w.heap.size = g at J ⊢
   have u0 : W.cell? ⟨g,0,none⟩ = some (.int .i64 us):=J.cell 0
   have u1 : W.cell? ⟨g,1,none⟩ = some (.int .i64 uf):=J.cell 1
   have u2 : W.cell? ⟨g,2,none⟩ = some (.int .i64 uk):=J.cell 2
   go_wp2
   go_ret
   exact ⟨by first | rfl | simp [*],HX.out⟩
  ·have e : chU id kn t ⟨us,uf,uk,⟨p,f,lo,hi,no,tu,sl⟩⟩ = false:=by simp [chU,h2]
   rw [e]
   clear e h1
   go_enter Tryz.func112,Tryz.ntmps112
   go_upto_region 1 with (fail)
   generalize w.alloc _ = W at J c0 c22 ct HX ⊢
   generalize w.heap.size = g at J ⊢
   have u0 : W.cell? ⟨g,0,none⟩ = some (.int .i64 us):=J.cell 0
   have u1 : W.cell? ⟨g,1,none⟩ = some (.int .i64 uf):=J.cell 1
   have u2 : W.cell? ⟨g,2,none⟩ = some (.int .i64 uk):=J.cell 2
   go_wp2
   go_ret
   exact ⟨by first | rfl | simp [*],HX.out⟩
 ·have h1b : (us == id) = false:=by simpa using h1
  have e : chU id kn t ⟨us,uf,uk,⟨p,f,lo,hi,no,tu,sl⟩⟩ = false:=by simp [chU,h1]
  rw [e]
  clear e h1
  go_enter Tryz.func112,Tryz.ntmps112
  go_upto_region 1 with (fail)
  generalize w.alloc _ = W at J c0 c22 ct HX ⊢
  generalize w.heap.size = g at J ⊢
  have u0 : W.cell? ⟨g,0,none⟩ = some (.int .i64 us):=J.cell 0
  go_wp2
  go_ret
  exact ⟨by first | rfl | simp [*],HX.out⟩
theorem key_any (u : Upd) (w : World) : Calls Tryz.prog 114 #[.agg (updCells u).toArray] w fun e w' => e = .returned (.int .i64 u.fr) ∧ Ext w w':=by
 obtain ⟨us,uf,uk,⟨p,f,lo,hi,no,tu,sl⟩⟩:=u
 show Calls Tryz.prog 114 #[.agg #[.int .i64 us,.int .i64 uf,.int .i64 uk,.int .i64 p,.int .i64 f,.int .i64 lo,.int .i64 hi,.int .i64 no,.int .i64 tu,.int .i64 sl]] w _
 go_enter Tryz.func114,Tryz.ntmps114
 go_wp2
 go_ret
 exact ⟨rfl,(by repeat (first | exact Below.refl _ _ | assumption | refine Below.drew ?_ | refine below_drewN ?_ _ | refine bl_alloc ?_ _ | refine Below.setCell ?_ (by first | (simp; done) | omega | (simp; omega)) _ | refine bl_then ?_ (by assumption)))⟩
end Go.Proofs.YtjidhhfabfnhnaaGreat
