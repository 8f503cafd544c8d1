/- The predicate of Passes (printed by contact_b3.py). -/
import Derived.Test.YtjidhhfabfnhnaaGreatK01
import Derived.RangeFuncNested
import Derived.RangeFuncBound
import Derived.RangeFuncCalls
import Derived.RangeFuncLeaves
import Derived.Shelf.Abstract
import Derived.Shelf.RegionOpen
import Derived.WalkKit
import Derived.OwnWalkIn
import Derived.TacticsInMore
import Derived.LoopNIn
import Derived.LoopIn
import Derived.Test.YtjidhhfabfnhnaaGreatK05
namespace Go.Proofs.YtjidhhfabfnhnaaGreat
open Go.RowKit Go.Shelf
def SeqG {α : Type} (n : Nat) (P : Program) (g : Nat) (lb : Array Value) (encs : α → Array Value) (Kp : World → World → Prop) (G : List α → World → Prop) (S Sp : List α → Prop) (N : Nat) (w : World) : Prop :=
 ∀ (l : Nat) (J Jx : List α → World → Prop) (W : World),Ext w W → AbidesFrom W.heap.size J → AbidesFrom W.heap.size Jx → (∀ pre X,J pre X → G pre X) →
  (∀ pre x X,J pre X → pre.length < N → YieldAt Fence.wide (n - 1) P l (encs x) X fun e Y => (e = .returned (.bool true) ∧ J (pre ++ [x]) Y ∧ Kp X Y) ∨ (e = .returned (.bool false) ∧ Jx (pre ++ [x]) Y)) →
  J [] W → CallsIn Fence.wide n P g (#[.func (.yield l) #[] #[]] ++ lb) W fun e Y => (∃ v,e = .returned v) ∧ ((∃ xs,S xs ∧ J xs Y) ∨ (∃ pre,Sp pre ∧ Jx pre Y))
def Bk (d : Nat) (r : Loop) (W : World) : Prop:=W.heap[d + 1]? = some (.loop r) ∧ W.heap[d]? = some (.deferred (some []))
section
variable {d : Nat} {r : Loop} {X Y : World}
theorem Bk.lt (h : Bk d r X) : d + 1 < X.heap.size:=(Array.getElem?_eq_some_iff.1 h.1).1
theorem Bk.keeps (h : Bk d r X) (k : KeepsFrom d X Y) : Bk d r Y:=⟨k.same _ _ (by omega) h.1 rfl,k.same _ _ (Nat.le_refl _) h.2 rfl⟩
theorem Bk.turn (h : Bk d r X) (r' : Loop) : Bk d r' (X.putObj (d + 1) (.loop r')):=⟨World.putObj_heap_same h.lt,(World.putObj_heap_other (by omega)).trans h.2⟩
theorem Bk.abide {B : Nat} (hB : d + 2 ≤ B) {row : Option Nat} (h : Bk d r X) (hg : X.grownBy Y row) (hr : ∀ q,row = some q → B ≤ q ∧ ∃ o : Obj,X.heap[q]? = some o ∧ o.isWalk = true) : Bk d r Y :=
 have hne : ∀ k,k < B → some k ≠ row:=fun k hk e => by have:=(hr k e.symm).1; omega
 ⟨(hg.block _ h.lt (hne _ (by omega))).trans h.1,(hg.block _ (by have:=h.lt; omega) (hne _ (by omega))).trans h.2⟩
end
theorem wp_range_seqG {α : Type} {n : Nat} {P : Program} {op : Operand} {ps : Array Tmp} {assign body : Code} {Q : Exit → Act → World → Prop} {a : Act} {w : World}
  (h1 : 1 ≤ n) {gf : Nat} {lb : Array Value} (hg : a.eval op = .func (.func gf) #[] lb) (eg : ∀ args w,(callFunc gf args).run P w = .ok (.enter gf args) w)
  {encs : α → Array Value} {Kp : World → World → Prop} {G : List α → World → Prop} {S Sp : List α → Prop} {N : Nat} (hseq : SeqG (n - 1) P gf lb encs Kp G S Sp N w)
  (hKt : ∀ {A B C : World},Kp A B → Kp B C → Kp A C) (hKb : ∀ (W : World) (l : Nat) (o o' : Obj),w.heap.size ≤ l → W.heap[l]? = some o → o.isCells = false → Kp W (W.putObj l o')) (hps : ∀ x,(encs x).size = ps.size)
  (I : List α → World → Prop) (Ix : Code → List α → World → Prop) (hIG : ∀ pre W,I pre W → G pre W) (hI : OwnFrom w.heap.size I) (hIx : ∀ c,OwnFrom w.heap.size (Ix c)) (h0 : I [] w)
  (Ax : α → Act → World → Prop) (hAx : ∀ x a',OwnFrom w.heap.size (fun (_ : Unit) W => Ax x a' W))
  (hassign : ∀ (l : Nat) (pre : List α) (x : α) (W : World) (K : Act → World → Prop),I pre W → (∀ a' W',KeepsFrom w.heap.size W W' → Kp W W' → I pre W' → Ax x a' W' → K a' W') →
   assign.wpIn (Fence.wide.inRound l) (n - 1 - 1) P (Exit.then K (fun _ _ _ => False)) { tmps:=(ps.zip (encs x)).foldl (fun t (p,v) => t.setIfInBounds p v) a.tmps,defers:=[] } W)
  (hbody : ∀ (l : Nat) (pre : List α) (x : α) (a' : Act) (W : World),I pre W → Ax x a' W → pre.length < N → body.wpIn (Fence.wide.inRound l) (n - 1 - 1) P (ownPostG w.heap.size Kp I Ix (pre ++ [x]) W) a' W)
  (hdone : ∀ (D : Nat) (xs : List α) (W : World),w.heap.size ≤ D → S xs → I xs W → W.heap[D]? = some (.deferred (some [])) → Q .normal { a with defers:={ target:=.collected D,args:=#[] } :: a.defers } W)
  (hstop : ∀ (D : Nat) (c : Code) (pre : List α) (W : World),w.heap.size ≤ D → Sp pre → Ix c pre W → W.heap[D]? = some (.deferred (some [])) → c.wpIn Fence.wide n P Q { a with defers:={ target:=.collected D,args:=#[] } :: a.defers } W) :
  (Code.rangeFunc op ps assign body).wpIn Fence.wide n P Q a w:=by
 refine wpIn_rangeFunc fun fn hfn => ?_
 obtain ⟨d,hd⟩ : ∃ d,d = w.heap.size:=⟨_,rfl⟩
 obtain ⟨rc,hrc⟩ : ∃ rc : LoopState → Option Code → Loop,rc = fun st pe => { state:=st,pending:=pe,fn,tmps:=a.tmps,params:=ps,assign,body,defers:=d }:=⟨_,rfl⟩
 obtain ⟨V,hV⟩ : ∃ V,V = (w.alloc (.deferred (some []))).alloc (.loop (rc .ready none)):=⟨_,rfl⟩
 have hVz : V.heap.size = d + 2:=by rw [hV,World.size_alloc,World.size_alloc,hd]
 have hBV : Bk d (rc .ready none) V:=by
  subst hV hd
  refine ⟨?_,(Below.heap_alloc _ _ _ (by simp)).trans (World.alloc_heap_new w _)⟩
  have:=World.alloc_heap_new (w.alloc (.deferred (some []))) (.loop (rc .ready none))
  rwa [World.size_alloc] at this
 have hIV : I [] V:=by subst hV; exact hI.alloc _ (hI.alloc _ h0)
 have hxV : Ext w V:=by subst hV; exact bl_alloc (bl_alloc (Below.refl _ _) _) _
 refine ⟨d + 1,[{ target:=.collected d,args:=#[] }],V,{ target:=.fn (.func gf) lb,args:=#[.func (.yield (d + 1)) #[] #[]] },V,gf,#[.func (.yield (d + 1)) #[] #[]] ++ lb,V,?_,?_,?_,?_,fun _ => h1,?_⟩
 ·have h:=run_enterLoop_outer (P:=P) (w:=w) fn a.tmps ps assign body
  subst hV hrc hd
  exact h
 ·simp only [resolve,hg]
  simp [go_sem]
 ·intro f' _
  trivial
 ·simp [invoke,go_sem,eg]
 have kD : ∀ {A B : World},KeepsFrom w.heap.size A B → KeepsFrom d A B:=fun h => by rw [hd]; exact h
 have turnK : ∀ (W : World) (r r' : Loop),Bk d r W → Kp W (W.putObj (d + 1) (.loop r')):=fun W r r' h => hKb W (d + 1) _ _ (by omega) h.1 rfl
 have ownI : ∀ {β : Type} {J : β → World → Prop} (s : β) (W : World) (r r' : Loop),OwnFrom w.heap.size J → Bk d r W → J s W → J s (W.putObj (d + 1) (.loop r')):=fun s W r r' h hb hj => h.putObj _ hj (by omega) hb.1 rfl
 have noWalk : ∀ {A : World} {row : Option Nat},(∀ q,row = some q → V.heap.size ≤ q ∧ ∃ o : Obj,A.heap[q]? = some o ∧ o.isWalk = true) → ∀ q,row = some q → w.heap.size ≤ q ∧ ∃ o : Obj,A.heap[q]? = some o ∧ o.isCells = false:=fun h q e => by
  obtain ⟨hq,o,ho,hw⟩:=h q e
  exact ⟨by omega,o,ho,Obj.not_cells_of_walk hw⟩
 refine (hseq (d + 1) (fun pre W => I pre W ∧ Bk d (rc .ready none) W) (fun pre W => ∃ c,Ix c pre W ∧ Bk d (rc .done (some c)) W) V hxV
  (fun s A B row h hgr hr => ⟨hI s A B row h.1 hgr (noWalk hr),h.2.abide (by omega) hgr hr⟩) (fun s A B row h hgr hr => ?_) (fun pre X h => hIG pre X h.1) (fun pre x X h hlen => ?_) ⟨hIV,hBV⟩).mono ?_
 ·obtain ⟨c,hc,hb⟩:=h
  exact ⟨c,hIx c s A B row hc hgr (noWalk hr),hb.abide (by omega) hgr hr⟩
 ·obtain ⟨hi,hb⟩:=h
  have hy:=run_yield (P:=P) (args:=encs x) hb.1 (by rw [hrc]; exact hps x)
  rw [hrc] at hy
  refine ⟨fn,_,assign,body,hy,roundIn_of_wpIn hfn (hassign _ pre x X _ hi fun a' Y hk hp hi' hax => ?_)⟩
  clear hy
  have hb:=hb.keeps (kD hk)
  refine ⟨_,run_beginRound hb.1 (by rw [hrc]),?_⟩
  have hb2:=hb.turn { rc .ready none with state:=.busy }
  have hp2:=hKt hp (turnK Y _ { rc .ready none with state:=.busy } hb)
  refine wpIn_mono (hbody _ pre x a' _ (ownI _ Y _ _ hI hb hi') (ownI (J:=fun (_ : Unit) W => Ax x a' W) () Y _ _ (hAx x a') hb hax) hlen) ?_
  have fin : ∀ (jump : Option Code) (Z : World),KeepsFrom w.heap.size (Y.putObj (d + 1) (.loop { rc .ready none with state:=.busy })) Z →
    (Instr.endRound (d + 1) jump).run P Z = .ok (.bool jump.isNone) (Z.putObj (d + 1) (.loop (rc (if jump.isNone then .ready else .done) jump))) ∧ Bk d { rc .ready none with state:=.busy } Z:=fun jump Z hk => by
   have hb3:=hb2.keeps (kD hk)
   have h:=run_endRound (P:=P) jump hb3.1
   rw [hrc] at h ⊢
   exact ⟨h,by rw [hrc] at hb3; exact hb3⟩
  intro e a3 Z hp3
  match e,hp3 with
  | .normal,⟨hk,hkp,hi3⟩ =>
   obtain ⟨hr,hb3⟩:=fin none Z hk
   exact ⟨_,_,hr,.inl ⟨rfl,⟨ownI _ Z _ _ hI hb3 hi3,hb3.turn _⟩,hKt hp2 (hKt hkp (turnK Z _ _ hb3))⟩⟩
  | .ret,⟨hk,hi3⟩ =>
   obtain ⟨hr,hb3⟩:=fin (some .ret) Z hk
   exact ⟨_,_,hr,.inr ⟨rfl,.ret,ownI _ Z _ _ (hIx _) hb3 hi3,hb3.turn _⟩⟩
  | .exit id,⟨hk,hi3⟩ =>
   obtain ⟨hr,hb3⟩:=fin (some (.exit id)) Z hk
   exact ⟨_,_,hr,.inr ⟨rfl,.exit id,ownI _ Z _ _ (hIx _) hb3 hi3,hb3.turn _⟩⟩
  | .goto t,⟨hk,hi3⟩ =>
   obtain ⟨hr,hb3⟩:=fin (some (.goto t)) Z hk
   exact ⟨_,_,hr,.inr ⟨rfl,.goto t,ownI _ Z _ _ (hIx _) hb3 hi3,hb3.turn _⟩⟩
 ·rintro e Z ⟨⟨v,rfl⟩,⟨xs,hS,hi,hb⟩ | ⟨pre,hSp,c,hi,hb⟩⟩
  ·have h:=run_endLoop (P:=P) hb.1 (by rw [hrc]; simp)
   rw [hrc] at h
   exact ⟨none,_,h,hdone d xs _ (by omega) hS (ownI _ Z _ _ hI hb hi) (hb.turn _).2⟩
  ·have h:=run_endLoop (P:=P) hb.1 (by rw [hrc]; simp)
   rw [hrc] at h
   exact ⟨some c,_,h,hstop d c pre _ (by omega) hSp (ownI _ Z _ _ (hIx c) hb hi) (hb.turn _).2⟩
end Go.Proofs.YtjidhhfabfnhnaaGreat
namespace Go.Proofs.YtjidhhfabfnhnaaGreat
section
variable {α : Type} (lt : α → α → Bool)
structure SW : Prop where
 tr : ∀ a b c,lt a b = true → lt b c = true → lt a c = true
 asy : ∀ a b,lt a b = true → lt b a = false
 ntr : ∀ a b c,lt a b = false → lt b c = false → lt a c = false
def posR (p : List α) (x : α) : Nat:=p.length - (p.reverse.takeWhile (fun y => lt x y)).length
def insR (p : List α) (x : α) : List α:=p.take (posR lt p x) ++ x :: p.drop (posR lt p x)
def sortP (l : List α) : List α:=l.foldl (insR lt) []
def Srtd : List α → Prop
 | [] => True
 | x :: r => (∀ y ∈ r,lt y x = false) ∧ Srtd r
def mergeP : List α → List α → List α
 | [],ys => ys
 | x :: xs,[] => x :: xs
 | x :: xs,y :: ys => if lt y x then y :: mergeP (x :: xs) ys else x :: mergeP xs (y :: ys)
termination_by l r => l.length + r.length
theorem mergeP_nil (l : List α) : mergeP lt l [] = l:=by cases l <;> simp [mergeP]
theorem nil_mergeP (l : List α) : mergeP lt [] l = l:=by simp [mergeP]
theorem merge_split (L1 L2 R1 R2 : List α) (h1 : ∀ x ∈ L1,∀ y ∈ R2,lt y x = false) (h2 : ∀ y ∈ R1,∀ x ∈ L2,lt y x = true) : mergeP lt (L1 ++ L2) (R1 ++ R2) = mergeP lt L1 R1 ++ mergeP lt L2 R2:=by
 match L1,R1 with
 | [],[] => simp [nil_mergeP]
 | [],y :: R1 =>
  rw [nil_mergeP]
  cases L2 with
  | nil => simp [nil_mergeP]
  | cons x L2 =>
   have hy:=h2 y (by simp) x (by simp)
   have ih:=merge_split [] (x :: L2) R1 R2 (fun _ hx => by cases hx) (fun z hz => h2 z (by simp [hz]))
   rw [nil_mergeP] at ih
   simp only [List.nil_append,List.cons_append] at ih ⊢
   rw [mergeP,if_pos hy,ih]
 | x :: L1,[] =>
  rw [mergeP_nil]
  cases R2 with
  | nil => simp [mergeP_nil]
  | cons y R2 =>
   have hy:=h1 x (by simp) y (by simp)
   have ih:=merge_split L1 L2 [] (y :: R2) (fun z hz => h1 z (by simp [hz])) (fun _ hx => by cases hx)
   rw [mergeP_nil] at ih
   simp only [List.nil_append,List.cons_append] at ih ⊢
   rw [mergeP,if_neg (by rw [hy]; simp),ih]
 | x :: L1,y :: R1 =>
  by_cases hc : lt y x = true
  ·have ih:=merge_split (x :: L1) L2 R1 R2 h1 (fun z hz => h2 z (by simp [hz]))
   simp only [List.cons_append] at ih ⊢
   rw [mergeP,if_pos hc,ih,mergeP,if_pos hc]
   simp
  ·have ih:=merge_split L1 L2 (y :: R1) R2 (fun z hz => h1 z (by simp [hz])) h2
   simp only [List.cons_append] at ih ⊢
   rw [mergeP,if_neg hc,ih,mergeP,if_neg hc]
   simp
termination_by L1.length + R1.length
theorem insR_at (A B : List α) (x : α) (h1 : ∀ y ∈ A,lt x y = false) (h2 : ∀ y ∈ B,lt x y = true) : insR lt (A ++ B) x = A ++ x :: B:=by
 have hp : posR lt (A ++ B) x = A.length:=by
  unfold posR
  rw [List.reverse_append,List.takeWhile_append_of_pos (fun y hy => h2 y (by simpa using hy)),List.length_append,List.length_append]
  have : (A.reverse.takeWhile (fun y => lt x y)) = []:=by
   cases hA : A.reverse with
   | nil => rfl
   | cons z r =>
    have hz : z ∈ A:=by rw [← List.mem_reverse,hA]; simp
    simp [h1 z hz]
  rw [this]
  simp
 unfold insR
 rw [hp]
 simp
variable {lt}
theorem sorted_parts (h : SW lt) (B : List α) (x : α) (hs : Srtd lt B) : ∃ B1 B2,B = B1 ++ B2 ∧ (∀ y ∈ B1,lt x y = false) ∧ ∀ y ∈ B2,lt x y = true:=by
 induction B with
 | nil => exact ⟨[],[],rfl,fun _ h => (by cases h),fun _ h => (by cases h)⟩
 | cons b B ih =>
  obtain ⟨hb,hB⟩:=hs
  by_cases hx : lt x b = true
  ·refine ⟨[],b :: B,rfl,fun _ h => (by cases h),fun y hy => ?_⟩
   rcases List.mem_cons.1 hy with rfl | hy
   ·exact hx
   ·cases e : lt x y
    ·have:=h.ntr x y b e (hb y hy)
     rw [this] at hx
     cases hx
    ·rfl
  ·obtain ⟨B1,B2,rfl,h1,h2⟩:=ih hB
   refine ⟨b :: B1,B2,rfl,fun y hy => ?_,h2⟩
   rcases List.mem_cons.1 hy with rfl | hy
   ·simpa using hx
   ·exact h1 y hy
theorem srtd_append {A B : List α} : Srtd lt (A ++ B) ↔ Srtd lt A ∧ Srtd lt B ∧ ∀ a ∈ A,∀ b ∈ B,lt b a = false:=by
 induction A with
 | nil => simp [Srtd]
 | cons x A ih =>
  simp only [List.cons_append,Srtd,ih,List.mem_append,List.mem_cons]
  constructor
  ·rintro ⟨h1,h2,h3,h4⟩
   refine ⟨⟨fun y hy => h1 y (.inl hy),h2⟩,h3,?_⟩
   rintro a (rfl | ha) b hb
   ·exact h1 b (.inr hb)
   ·exact h4 a ha b hb
  ·rintro ⟨⟨h1,h2⟩,h3,h4⟩
   refine ⟨?_,h2,h3,fun a ha b hb => h4 a (.inr ha) b hb⟩
   rintro y (hy | hy)
   ·exact h1 y hy
   ·exact h4 x (.inl rfl) y hy
theorem srtd_insR (h : SW lt) {B : List α} (hs : Srtd lt B) (x : α) : Srtd lt (insR lt B x):=by
 obtain ⟨B1,B2,rfl,h1,h2⟩:=sorted_parts h B x hs
 rw [insR_at lt B1 B2 x h1 h2]
 obtain ⟨s1,s2,s3⟩:=srtd_append.1 hs
 refine srtd_append.2 ⟨s1,⟨fun y hy => h.asy _ _ (h2 y hy),s2⟩,fun a ha b hb => ?_⟩
 rcases List.mem_cons.1 hb with rfl | hb
 ·exact h1 a ha
 ·exact s3 a ha b hb
theorem srtd_foldl (h : SW lt) (l B : List α) (hs : Srtd lt B) : Srtd lt (l.foldl (insR lt) B):=by
 induction l generalizing B with
 | nil => exact hs
 | cons x l ih => exact ih _ (srtd_insR h hs x)
theorem srtd_sortP (h : SW lt) (l : List α) : Srtd lt (sortP lt l):=srtd_foldl h l [] trivial
theorem mem_mergeP {A B : List α} {y : α} : y ∈ mergeP lt A B ↔ y ∈ A ∨ y ∈ B:=by
 match A,B with
 | [],B => simp [nil_mergeP]
 | a :: A,[] => simp [mergeP_nil]
 | a :: A,b :: B =>
  rw [mergeP]
  split
  ·have ih:=mem_mergeP (A:=a :: A) (B:=B) (y:=y)
   rw [List.mem_cons,ih]
   simp only [List.mem_cons]
   constructor
   ·rintro (h | (h | h) | h) <;> simp [h]
   ·rintro ((h | h) | h | h) <;> simp [h]
  ·have ih:=mem_mergeP (A:=A) (B:=b :: B) (y:=y)
   rw [List.mem_cons,ih]
   simp only [List.mem_cons]
   constructor
   ·rintro (h | h | h | h) <;> simp [h]
   ·rintro ((h | h) | h | h) <;> simp [h]
termination_by A.length + B.length
theorem merge_insR (h : SW lt) {A B : List α} (hA : Srtd lt A) (hB : Srtd lt B) (x : α) : mergeP lt A (insR lt B x) = insR lt (mergeP lt A B) x:=by
 obtain ⟨B1,B2,rfl,b1,b2⟩:=sorted_parts h B x hB
 obtain ⟨A1,A2,rfl,a1,a2⟩:=sorted_parts h A x hA
 have c1 : ∀ u ∈ A1,∀ v ∈ B2,lt v u = false:=fun u hu v hv => h.ntr v x u (h.asy _ _ (b2 v hv)) (a1 u hu)
 have c2 : ∀ v ∈ B1,∀ u ∈ A2,lt v u = true:=by
  intro v hv u hu
  cases e : lt v u
  ·have:=h.ntr x v u (b1 v hv) e
   rw [a2 u hu] at this
   cases this
  ·rfl
 rw [insR_at lt B1 B2 x b1 b2,merge_split lt A1 A2 B1 B2 c1 c2]
 have e1 : B1 ++ x :: B2 = (B1 ++ [x]) ++ B2:=by simp
 rw [e1,merge_split lt A1 A2 (B1 ++ [x]) B2 c1 (by
  intro v hv u hu
  rcases List.mem_append.1 hv with hv | hv
  ·exact c2 v hv u hu
  ·obtain rfl:=List.mem_singleton.1 hv
   exact a2 u hu)]
 have e2:=merge_split lt A1 [] B1 [x] (fun u hu v hv => by obtain rfl:=List.mem_singleton.1 hv; exact a1 u hu) (fun _ _ _ hx => by cases hx)
 rw [List.append_nil,nil_mergeP] at e2
 rw [e2,insR_at lt (mergeP lt A1 B1) (mergeP lt A2 B2) x]
 ·simp
 ·intro y hy
  rcases mem_mergeP.1 hy with hy | hy
  ·exact a1 y hy
  ·exact b1 y hy
 ·intro y hy
  rcases mem_mergeP.1 hy with hy | hy
  ·exact a2 y hy
  ·exact b2 y hy
theorem sort_append (h : SW lt) (l r : List α) : mergeP lt (sortP lt l) (sortP lt r) = sortP lt (l ++ r):=by
 have key : ∀ (r B : List α),Srtd lt B → mergeP lt (sortP lt l) (r.foldl (insR lt) B) = r.foldl (insR lt) (mergeP lt (sortP lt l) B):=by
  intro r
  induction r with
  | nil => intro B _; rfl
  | cons x r ih =>
   intro B hB
   rw [List.foldl_cons,List.foldl_cons,ih _ (srtd_insR h hB x),merge_insR h (srtd_sortP h l) hB]
 unfold sortP
 rw [List.foldl_append]
 have:=key r [] trivial
 rw [mergeP_nil] at this
 exact this
end
end Go.Proofs.YtjidhhfabfnhnaaGreat
namespace Go.Proofs.YtjidhhfabfnhnaaGreat
open Go.RowKit
theorem insR_stop {α : Type} (lt : α → α → Bool) (S1 S2 : List α) (x : α) (h1 : ∀ y,S1.getLast? = some y → lt x y = false) (h2 : ∀ y ∈ S2,lt x y = true) : insR lt (S1 ++ S2) x = S1 ++ x :: S2:=by
 have hp : posR lt (S1 ++ S2) x = S1.length:=by
  have ht : ((S1 ++ S2).reverse.takeWhile (fun y => lt x y)) = S2.reverse:=by
   rw [List.reverse_append,List.takeWhile_append_of_pos (by intro y hy; exact h2 y (by simpa using hy))]
   have : S1.reverse.takeWhile (fun y => lt x y) = []:=by
    rcases List.eq_nil_or_concat S1 with rfl | ⟨S,y,rfl⟩
    ·rfl
    ·have:=h1 y (by simp)
     simp [this]
   rw [this,List.append_nil]
  rw [posR,ht]
  simp
 rw [insR,hp]
 simp
theorem sortP_snoc {α : Type} (lt : α → α → Bool) (l : List α) (x : α) : sortP lt (l ++ [x]) = insR lt (sortP lt l) x:=by simp [sortP]
theorem length_insR {α : Type} (lt : α → α → Bool) (p : List α) (x : α) : (insR lt p x).length = p.length + 1:=by
 have : posR lt p x ≤ p.length:=Nat.sub_le _ _
 simp [insR]; omega
theorem length_sortP {α : Type} (lt : α → α → Bool) (l : List α) : (sortP lt l).length = l.length:=by
 suffices h : ∀ B : List α,(l.foldl (insR lt) B).length = B.length + l.length by simpa [sortP] using h []
 induction l with
 | nil => intro B; simp
 | cons x r ih => intro B; rw [List.foldl_cons,ih,length_insR]; simp; omega
def insAt {α : Type} (lt : α → α → Bool) (l : List α) (a k : Nat) : List α:=l.take a ++ sortP lt ((l.drop a).take (k - a)) ++ l.drop k
theorem insAt_start {α : Type} (lt : α → α → Bool) (l : List α) (a : Nat) : insAt lt l a (a + 1) = l:=by
 have : sortP lt ((l.drop a).take (a + 1 - a)) = (l.drop a).take 1:=by
  rw [show a + 1 - a = 1 by omega]
  cases l.drop a with
  | nil => rfl
  | cons x r => simp [sortP,insR,posR]
 rw [insAt,this,List.append_assoc,show l.drop (a + 1) = (l.drop a).drop 1 by rw [List.drop_drop],List.take_append_drop,List.take_append_drop]
def CmpC (K : Nat) (caps : Array Value) (cv : Pas → Pas → Int) : Prop:=∀ (x y : Pas) (w : World),Calls Tryz.prog K (#[.agg (pasCells x).toArray,.agg (pasCells y).toArray] ++ caps) w fun e w' => e = .returned (.int .i64 (cv x y)) ∧ Below w.heap.size w w'
def ltOf {α : Type} (cv : α → α → Int) (x y : α) : Bool:=decide (cv x y < 0)
theorem list_mid {α : Type} (P Q : List α) (x : α) (j : Nat) (hj : j = P.length) : ∃ h : j < (P ++ x :: Q).length,(P ++ x :: Q)[j] = x:=by
 subst hj
 exact ⟨by simp,by simp⟩
theorem list_set2 {α : Type} (P Q : List α) (x y : α) (j : Nat) (hj : j = P.length + 1) : ((P ++ y :: x :: Q).set j y).set (j - 1) x = P ++ x :: y :: Q:=by
 subst hj
 rw [List.set_append_right _ _ (by omega),show P.length + 1 - P.length = 1 by omega,List.set_cons_succ,List.set_cons_zero,Nat.add_sub_cancel,List.set_append_right _ _ (Nat.le_refl _),Nat.sub_self,List.set_cons_zero]
set_option maxHeartbeats 4000000 in
theorem insSort_any (K : Nat) (caps : Array Value) (cv : Pas → Pas → Int) (eg : ∀ args w,(callFunc K args).run Tryz.prog w = .ok (.enter K args) w) (hcmp : CmpC K caps cv)
  (base g n c a b : Nat) (l : List Pas) (w : World) (hr : RowS pasCells 6 base 75 g n c w l) (hab : a ≤ b) (hbn : b ≤ n) (hn : n ≤ 1000000) :
  Calls Tryz.prog 147 #[.slice (some ⟨g,0,none⟩) n c,.int .i64 (a : Int),.int .i64 (b : Int),.func (.func K) #[] caps] w
   fun e w' => e = .returned (.tuple #[]) ∧ RowS pasCells 6 base 75 g n c w' (insAt (ltOf cv) l a b) ∧ w.grownBy w' (some g):=by
 have hc:=hr.le
 have hln:=hr.1
 have HLN:=Lib.hid hln
 have HCMP:=Lib.hid hcmp
 by_cases hlt : a < b
 ·have h0 : RowS pasCells 6 base 75 g n c w (insAt (ltOf cv) l a (a + 1)):=by rw [insAt_start]; exact hr
  have H0:=Lib.hid h0
  have hg0 : w.grownBy w (some g):=grown_refl _ _
  have HG0:=Lib.hid hg0
  clear hr h0 hln hcmp hg0
  go_enter Tryz.func147,Tryz.ntmps147
  go_wp2
  go_loopw [8] (fun i wr => ∃ k : Nat,a < k ∧ k ≤ b ∧ i = .int .i64 k ∧ Hid (RowS pasCells 6 base 75 g n c wr (insAt (ltOf cv) l a k)) ∧ Hid (w.grownBy wr (some g))) (fun i _ => b - (intOf i).toNat)
  case atStart => exact ⟨a + 1,by omega,by omega,by go_num,H0,HG0⟩
  case round =>
   clear H0 HG0
   obtain ⟨k,hak,hkb,rfl,HR,HG⟩:=hrel
   by_cases hkl : k < b
   ·have hkz : k < l.length:=by rw [HLN.out]; omega
    obtain ⟨x,hx⟩ : ∃ x,x = l[k]:=⟨_,rfl⟩
    have hdk : l.drop k = x :: l.drop (k + 1):=by rw [hx]; exact List.drop_eq_getElem_cons hkz
    obtain ⟨S,hS⟩ : ∃ S,S = sortP (ltOf cv) ((l.drop a).take (k - a)):=⟨_,rfl⟩
    have hSl : S.length = k - a:=by rw [hS,length_sortP]; simp; omega
    have hPl : (l.take a).length = a:=by simp; omega
    have hnext : insAt (ltOf cv) l a (k + 1) = l.take a ++ insR (ltOf cv) S x ++ l.drop (k + 1):=by
     have h1 : (l.drop a).take (k + 1 - a) = (l.drop a).take (k - a) ++ [x]:=by
      rw [show k + 1 - a = (k - a) + 1 by omega,List.take_succ_eq_append_getElem (by simp; omega),hx]
      congr 2
      rw [List.getElem_drop]
      congr 1
      omega
     rw [insAt,h1,sortP_snoc,hS]
    obtain ⟨Pp,hPp⟩ : ∃ Pp,Pp = l.take a:=⟨_,rfl⟩
    obtain ⟨T,hT⟩ : ∃ T,T = l.drop (k + 1):=⟨_,rfl⟩
    have hrow0 : RowS pasCells 6 base 75 g n c wr (Pp ++ (S ++ x :: T)):=by
     have:=HR.out
     rw [insAt,← hS,hdk,← hPp,← hT] at this
     simpa using this
    rw [← hPp] at hPl hnext
    rw [← hT] at hnext
    have hX : ∃ X,(pasCells x).toArray = X:=⟨_,rfl⟩
    obtain ⟨X,hX⟩:=hX
    have HX:=Lib.hid hX
    have HN:=Lib.hid hnext
    have HSL:=Lib.hid hSl
    have HPL:=Lib.hid hPl
    have HR0:=Lib.hid hrow0
    have hall0 : ∀ y ∈ ([] : List Pas),ltOf cv x y = true:=fun y hy => by cases hy
    have HA0:=Lib.hid hall0
    have hj0 : (k : Nat) = a + S.length:=by omega
    have HJ0:=Lib.hid hj0
    have HS0:=Lib.hid (show S ++ [] = S from List.append_nil S)
    have hgr0 : wr.grownBy wr (some g):=grown_refl _ _
    have HGR:=Lib.hid hgr0
    clear hx hdk hS hSl hPl hnext hPp hT hrow0 hX HR hall0 hj0 hgr0
    obtain ⟨wo,hwo⟩ : ∃ wo : World,wo = wr:=⟨_,rfl⟩
    rw [← hwo] at HR0 HG HGR ⊢
    clear hwo
    go_wp2_with fail
    go_loopw [9] (fun jj wi => ∃ (j : Nat) (S1 S2 : List Pas),j ≤ k ∧ a ≤ j ∧ jj = .int .i64 j ∧ Hid (j = a + S1.length) ∧ Hid (S1 ++ S2 = S) ∧ Hid (∀ y ∈ S2,ltOf cv x y = true) ∧ Hid (RowS pasCells 6 base 75 g n c wi (Pp ++ (S1 ++ x :: (S2 ++ T)))) ∧ Hid (wo.grownBy wi (some g))) (fun jj _ => (intOf jj).toNat)
    case atStart => exact ⟨k,S,[],Nat.le_refl _,by omega,rfl,HJ0,HS0,HA0,HR0,HGR⟩
    case round =>
     clear HJ0 HS0 HA0 HR0 HGR
     obtain ⟨j,S1,S2,hjk,haj,rfl,HJ,HSS,HA,HR1,HG1⟩:=hrel
     obtain ⟨wi,hwi⟩ : ∃ wi : World,wi = wr:=⟨_,rfl⟩
     rw [← hwi] at HR1 HG1 ⊢
     clear hwi
     by_cases haj2 : a < j
     ·obtain ⟨S1',y,hS1⟩ : ∃ S1' y,S1 = S1' ++ [y]:=by
       rcases List.eq_nil_or_concat S1 with h | ⟨S,y,h⟩
       ·have:=HJ.out; rw [h] at this; simp at this; omega
       ·exact ⟨S,y,by simpa using h⟩
      have hrow : RowS pasCells 6 base 75 g n c wi ((Pp ++ S1') ++ y :: x :: (S2 ++ T)):=by
       have:=HR1.out
       rw [hS1] at this
       simpa using this
      have hj1 : j - 1 = (Pp ++ S1').length:=by have h1:=HJ.out; have h2:=HPL.out; rw [hS1] at h1; simp at h1 ⊢; omega
      obtain ⟨q1,e1⟩:=list_mid (Pp ++ S1') (x :: (S2 ++ T)) y (j - 1) hj1
      obtain ⟨q2,e2⟩:=list_mid ((Pp ++ S1') ++ [y]) (S2 ++ T) x j (by simp at hj1 ⊢; omega)
      have e3 : (Pp ++ S1') ++ [y] ++ x :: (S2 ++ T) = (Pp ++ S1') ++ y :: x :: (S2 ++ T):=by simp
      have q2' : j < ((Pp ++ S1') ++ y :: x :: (S2 ++ T)).length:=by rw [← e3]; exact q2
      have hX_:=hrow.range pas_len q2'
      have hY_:=hrow.range pas_len q1
      rw [e1] at hY_
      have e4 : ((Pp ++ S1') ++ y :: x :: (S2 ++ T))[j] = x:=by simp only [← e3]; exact e2
      rw [e4] at hX_
      have hcc:=HCMP.out x y
      obtain ⟨Y,hY⟩ : ∃ Y,(pasCells y).toArray = Y:=⟨_,rfl⟩
      rw [hY,HX.out] at hcc
      have HY:=Lib.hid hY
      obtain ⟨v_,hv⟩ : ∃ v,v = cv x y:=⟨_,rfl⟩
      rw [← hv] at hcc
      have HC:=Lib.hid hcc
      have HV:=Lib.hid hv
      have HROW:=Lib.hid hrow
      have HS1:=Lib.hid hS1
      have HJ1:=Lib.hid hj1
      have Q1:=Lib.hid q1
      have Q2:=Lib.hid q2'
      have hjn : j < n:=by omega
      clear hcc hv hrow hS1 hj1 e1 e2 e3 e4 q1 q2 q2' hY
      have hki : IntKind.i64.wrap ((j : Int) - 1) = (j : Int) - 1:=IntWalk.i64_in _ (by omega)
      have hkn : ((j : Int) - 1).toNat = j - 1:=by omega
      have hkd : decide (a < j) = true:=by simpa using haj2
      have HKI:=Lib.hid hki
      go_wp2_with fail
      refine wp_region_obl 17 (fun ix vals v w1 => match ix with | 0 => v = .int .i64 (j : Int) | 1 => v = .int .i64 (a : Int) | 2 => v = .bool true | 3 => v = .bool true | 4 => v = .func (.func K) #[] caps | 5 => v = .slice (some ⟨g,0,none⟩) n c | 6 => v = .int .i64 (j : Int) | 7 => v = .pointer (some ⟨g,j * 6,none⟩) | 8 => v = .agg X | 9 => v = .slice (some ⟨g,0,none⟩) n c | 10 => v = .int .i64 (j : Int) | 11 => v = .int .i64 ((j : Int) - 1) | 12 => v = .pointer (some ⟨g,(j - 1) * 6,none⟩) | 13 => v = .agg Y | 14 => v = .int .i64 v_ | 15 => v = .bool (decide (v_ < 0)) | _ => v = .bool (decide (v_ < 0))) (by kernel_rfl) (by kernel_rfl) ?_ ?_ ?_ ?_
      ·intro ix vals v w1 w2 hi hr hx; exact hr
      ·intro ix vals vals_ v w1 hi hv hr
       exact hr
      ·refine ⟨?_,?_,?_,?_,?_,?_,?_,?_,?_,?_,?_,?_,?_,?_,?_,?_,?_,trivial⟩
       ·intro vals w1 hx hd ha
        clear hd ha
        simp only [Lf]
        go_wp2
        exact q_
       ·intro vals w1 hx hd ha
        clear hd ha
        simp only [Lf,dstAt,Act.put,FR_]
        go_wp2
        exact q_
       ·intro vals w1 hx hd ha
        have e0 : vals 0 = .int .i64 (j : Int):=hd 0 (by decide)
        have e1 : vals 1 = .int .i64 (a : Int):=hd 1 (by decide)
        clear hd ha
        simp only [Lf,dstAt,Act.put,FR_,e0,e1]
        clear e0 e1
        go_wp2
        exact q_
       ·intro vals w1 hx hd ha
        have e2 : vals 2 = .bool true:=hd 2 (by decide)
        clear hd ha
        simp only [Lf,dstAt,Act.put,FR_,e2]
        clear e2
        go_wp2
        exact q_
       ·intro vals w1 hx hd ha
        have e3 : vals 3 = .bool true:=hd 3 (by decide)
        clear hd ha
        simp only [Lf,dstAt,Act.put,FR_,e3]
        clear e3
        go_wp2
        exact q_
       ·intro vals w1 hx hd ha
        have e3 : vals 3 = .bool true:=hd 3 (by decide)
        clear hd ha
        simp only [Lf,dstAt,Act.put,FR_,e3]
        clear e3
        go_wp2
        exact q_
       ·intro vals w1 hx hd ha
        have e3 : vals 3 = .bool true:=hd 3 (by decide)
        clear hd ha
        simp only [Lf,dstAt,Act.put,FR_,e3]
        clear e3
        go_wp2
        exact q_
       ·intro vals w1 hx hd ha
        have e3 : vals 3 = .bool true:=hd 3 (by decide)
        have e5 : vals 5 = .slice (some ⟨g,0,none⟩) n c:=hd 5 (by decide)
        have e6 : vals 6 = .int .i64 (j : Int):=hd 6 (by decide)
        clear hd ha
        simp only [Lf,dstAt,Act.put,FR_,e3,e5,e6]
        clear e3 e5 e6
        go_wp2
        exact q_
       ·intro vals w1 hx hd ha
        have e3 : vals 3 = .bool true:=hd 3 (by decide)
        have e7 : vals 7 = .pointer (some ⟨g,j * 6,none⟩):=hd 7 (by decide)
        clear hd ha
        simp only [Lf,dstAt,Act.put,FR_,e3]
        simp only [e7]
        clear e3 e7
        refine wpList_load_stg rfl _ _ rfl g (j * 6) rfl X (pasCells x) HX.out _ (RA.range2 hX_ hx.undrew) Tryz.underlying75 rfl pas_size ?_
        go_wp2
        exact q_
       ·intro vals w1 hx hd ha
        have e3 : vals 3 = .bool true:=hd 3 (by decide)
        clear hd ha
        simp only [Lf,dstAt,Act.put,FR_,e3]
        clear e3
        go_wp2
        exact q_
       ·intro vals w1 hx hd ha
        have e3 : vals 3 = .bool true:=hd 3 (by decide)
        clear hd ha
        simp only [Lf,dstAt,Act.put,FR_,e3]
        clear e3
        go_wp2
        exact q_
       ·intro vals w1 hx hd ha
        have e3 : vals 3 = .bool true:=hd 3 (by decide)
        have e10 : vals 10 = .int .i64 (j : Int):=hd 10 (by decide)
        clear hd ha
        simp only [Lf,dstAt,Act.put,FR_,e3,e10]
        clear e3 e10
        go_wp2
        exact q_
       ·intro vals w1 hx hd ha
        have e3 : vals 3 = .bool true:=hd 3 (by decide)
        have e9 : vals 9 = .slice (some ⟨g,0,none⟩) n c:=hd 9 (by decide)
        have e11 : vals 11 = .int .i64 ((j : Int) - 1):=hd 11 (by decide)
        clear hd ha
        simp only [Lf,dstAt,Act.put,FR_,e3,e9,e11]
        clear e3 e9 e11
        go_wp2
        exact q_
       ·intro vals w1 hx hd ha
        have e3 : vals 3 = .bool true:=hd 3 (by decide)
        have e12 : vals 12 = .pointer (some ⟨g,(j - 1) * 6,none⟩):=hd 12 (by decide)
        clear hd ha
        simp only [Lf,dstAt,Act.put,FR_,e3]
        simp only [e12]
        clear e3 e12
        refine wpList_load_stg rfl _ _ rfl g ((j - 1) * 6) rfl Y (pasCells y) HY.out _ (RA.range2 hY_ hx.undrew) Tryz.underlying75 rfl pas_size ?_
        go_wp2
        exact q_
       ·intro vals w1 hx hd ha
        have e3 : vals 3 = .bool true:=hd 3 (by decide)
        have e4 : vals 4 = .func (.func K) #[] caps:=hd 4 (by decide)
        have e8 : vals 8 = .agg X:=hd 8 (by decide)
        have e13 : vals 13 = .agg Y:=hd 13 (by decide)
        clear hd ha
        simp only [Lf,dstAt,Act.put,FR_,e3]
        simp only [e4]
        simp only [e8]
        simp only [e13]
        clear e3 e4 e8 e13
        go_wp2_with fail
        refine (HC.out _).mono ?_
        rintro e w2 ⟨rfl,hb2⟩
        go_wp2
        exact ⟨rfl,hb2,rfl⟩
       ·intro vals w1 hx hd ha
        have e3 : vals 3 = .bool true:=hd 3 (by decide)
        have e14 : vals 14 = .int .i64 v_:=hd 14 (by decide)
        clear hd ha
        simp only [Lf,dstAt,Act.put,FR_,e3,e14]
        clear e3 e14
        go_wp2
        exact q_
       ·intro vals w1 hx hd ha
        have e3 : vals 3 = .bool true:=hd 3 (by decide)
        have e15 : vals 15 = .bool (decide (v_ < 0)):=hd 15 (by decide)
        clear hd ha
        simp only [Lf,dstAt,Act.put,FR_,e3,e15]
        clear e3 e15
        go_wp2
        exact q_
      intro vals w5 hx5 hf
      have e16 : vals 16 = .bool (decide (v_ < 0)):=hf 16 (by omega)
      clear hf
      have hx5:=hx5.undrew
      refine tail0 (by kernel_rfl) ?_
      simp only [Lf,dstAt,Act.put,FR_]
      rw [e16]
      clear e16
      have hX5:=RA.range2 hX_ hx5
      have hY5:=RA.range2 hY_ hx5
      have hR5:=HROW.out.ext hx5
      have hG5 : wo.grownBy w5 (some g):=gb_trans HG1.out (grown_ext hx5)
      have HR5:=Lib.hid hR5
      have HG5:=Lib.hid hG5
      have HX5:=Lib.hid hX5
      have HY5:=Lib.hid hY5
      clear hX_ hY_ hX5 hY5 hR5 hG5 hx5 HROW HG1 HR1
      by_cases hv0 : v_ < 0
      ·have hd : decide (v_ < 0) = true:=by simpa using hv0
       have hkd2 : (1 : Int) ≤ j:=by omega
       go_wp2_with fail
       have hX_:=HX5.out
       have hY_:=HY5.out
       refine wp_region_pre 15 [(2,.slice (some ⟨g,0,none⟩) n c),(3,.int .i64 (j : Int)),(4,.int .i64 ((j : Int) - 1))] (fun ix vals v w1 => match ix with | 0 => v = .slice (some ⟨g,0,none⟩) n c | 1 => v = .int .i64 (j : Int) | 2 => v = .slice (some ⟨g,0,none⟩) n c | 3 => v = .int .i64 (j : Int) | 4 => v = .int .i64 ((j : Int) - 1) | 5 => v = .slice (some ⟨g,0,none⟩) n c | 6 => v = .int .i64 (j : Int) | 7 => v = .int .i64 ((j : Int) - 1) | 8 => v = .pointer (some ⟨g,(j - 1) * 6,none⟩) | 9 => v = .agg Y | 10 => v = .slice (some ⟨g,0,none⟩) n c | 11 => v = .int .i64 (j : Int) | 12 => v = .pointer (some ⟨g,j * 6,none⟩) | 13 => v = .agg X | _ => v = .pointer (some ⟨g,j * 6,none⟩)) (by kernel_rfl) (by kernel_rfl) (by kernel_rfl) (by kernel_rfl) (by kernel_rfl) ?_ ?_ ?_ ?_ ?_ ?_
       ·refine ⟨⟨_,rfl,by kernel_rfl,by kernel_rfl,yields_move rfl rfl rfl⟩,⟨_,rfl,by kernel_rfl,by kernel_rfl,yields_move rfl rfl rfl⟩,⟨_,rfl,by kernel_rfl,by kernel_rfl,yields_sub rfl rfl rfl rfl hki⟩,trivial⟩
       ·intro j hj vals w1
        simp only [List.map_cons,List.map_nil,List.mem_cons,List.not_mem_nil,or_false] at hj
        rcases hj with rfl | rfl | rfl <;> rfl
       ·intro ix vals v w1 w2 hi hr hx; exact hr
       ·intro ix vals vals_ v w1 hi hv hr
        exact hr
       ·refine ⟨?_,?_,?_,?_,?_,?_,?_,?_,?_,?_,?_,?_,?_,?_,?_,trivial⟩
        ·intro vals w1 hx hd ha
         clear hd ha
         simp only [Lf]
         go_wp2
         exact q_
        ·intro vals w1 hx hd ha
         clear hd ha
         simp only [Lf,dstAt,Act.put,FR_]
         go_wp2
         exact q_
        ·intro vals w1 hx hd ha
         clear hd ha
         simp only [Lf,dstAt,Act.put,FR_]
         go_wp2
         exact q_
        ·intro vals w1 hx hd ha
         clear hd ha
         simp only [Lf,dstAt,Act.put,FR_]
         go_wp2
         exact q_
        ·intro vals w1 hx hd ha
         have e3 : vals 3 = .int .i64 (j : Int):=hd 3 (by decide)
         clear hd ha
         simp only [Lf,dstAt,Act.put,FR_,e3]
         clear e3
         go_wp2
         exact q_
        ·intro vals w1 hx hd ha
         clear hd ha
         simp only [Lf,dstAt,Act.put,FR_]
         go_wp2
         exact q_
        ·intro vals w1 hx hd ha
         clear hd ha
         simp only [Lf,dstAt,Act.put,FR_]
         go_wp2
         exact q_
        ·intro vals w1 hx hd ha
         have e6 : vals 6 = .int .i64 (j : Int):=hd 6 (by decide)
         clear hd ha
         simp only [Lf,dstAt,Act.put,FR_,e6]
         clear e6
         go_wp2
         exact q_
        ·intro vals w1 hx hd ha
         have e5 : vals 5 = .slice (some ⟨g,0,none⟩) n c:=hd 5 (by decide)
         have e7 : vals 7 = .int .i64 ((j : Int) - 1):=hd 7 (by decide)
         clear hd ha
         simp only [Lf,dstAt,Act.put,FR_,e5,e7]
         clear e5 e7
         go_wp2
         exact q_
        ·intro vals w1 hx hd ha
         have e8 : vals 8 = .pointer (some ⟨g,(j - 1) * 6,none⟩):=hd 8 (by decide)
         clear hd ha
         simp only [Lf,dstAt,Act.put,FR_,e8]
         clear e8
         refine wpList_load_st rfl _ _ rfl g ((j - 1) * 6) rfl Y (pasCells y) HY.out _ (RA.range2 hY_ hx.undrew) Tryz.underlying75 rfl pas_size ?_
         go_wp2
         exact q_
        ·intro vals w1 hx hd ha
         clear hd ha
         simp only [Lf,dstAt,Act.put,FR_]
         go_wp2
         exact q_
        ·intro vals w1 hx hd ha
         clear hd ha
         simp only [Lf,dstAt,Act.put,FR_]
         go_wp2
         exact q_
        ·intro vals w1 hx hd ha
         have e10 : vals 10 = .slice (some ⟨g,0,none⟩) n c:=hd 10 (by decide)
         have e11 : vals 11 = .int .i64 (j : Int):=hd 11 (by decide)
         clear hd ha
         simp only [Lf,dstAt,Act.put,FR_,e10,e11]
         clear e10 e11
         go_wp2
         exact q_
        ·intro vals w1 hx hd ha
         have e12 : vals 12 = .pointer (some ⟨g,j * 6,none⟩):=hd 12 (by decide)
         clear hd ha
         simp only [Lf,dstAt,Act.put,FR_,e12]
         clear e12
         refine wpList_load_st rfl _ _ rfl g (j * 6) rfl X (pasCells x) HX.out _ (RA.range2 hX_ hx.undrew) Tryz.underlying75 rfl pas_size ?_
         go_wp2
         exact q_
        ·intro vals w1 hx hd ha
         have e0 : vals 0 = .slice (some ⟨g,0,none⟩) n c:=hd 0 (by decide)
         have e1 : vals 1 = .int .i64 (j : Int):=hd 1 (by decide)
         have e5 : vals 5 = .slice (some ⟨g,0,none⟩) n c:=hd 5 (by decide)
         have e6 : vals 6 = .int .i64 (j : Int):=hd 6 (by decide)
         have e7 : vals 7 = .int .i64 ((j : Int) - 1):=hd 7 (by decide)
         have e8 : vals 8 = .pointer (some ⟨g,(j - 1) * 6,none⟩):=hd 8 (by decide)
         have e9 : vals 9 = .agg Y:=hd 9 (by decide)
         have e13 : vals 13 = .agg X:=hd 13 (by decide)
         clear hd ha
         simp only [Lf,dstAt,Act.put,FR_,e0,e1,e5,e6,e7,e8,e9,e13]
         clear e0 e1 e5 e6 e7 e8 e9 e13
         go_wp2
         exact q_
       intro vals w6 hx6 hf
       have e2 : vals 2 = .slice (some ⟨g,0,none⟩) n c:=hf 2 (by omega)
       have e4 : vals 4 = .int .i64 ((j : Int) - 1):=hf 4 (by omega)
       have e9 : vals 9 = .agg Y:=hf 9 (by omega)
       have e13 : vals 13 = .agg X:=hf 13 (by omega)
       have e14 : vals 14 = .pointer (some ⟨g,j * 6,none⟩):=hf 14 (by omega)
       clear hf
       have hx6:=hx6.undrew
       have hR6:=HR5.out.ext hx6
       obtain ⟨hs1,hg1⟩:=hR6.store pas_len Q2.out y
       have ht1:=hR6.there pas_len Q2.out
       have hl1 : j - 1 < (((Pp ++ S1') ++ y :: x :: (S2 ++ T)).set j y).length:=by simpa using Q1.out
       obtain ⟨hs2,hg2⟩:=hs1.store pas_len hl1 x
       have ht2:=hs1.there pas_len hl1
       rw [list_set2 (Pp ++ S1') (S2 ++ T) x y j (by have:=HJ1.out; omega)] at hs2
       have hG6 : wo.grownBy ((w6.setCells g (j * 6) (pasCells y)).setCells g ((j - 1) * 6) (pasCells x)) (some g):=gb_trans (gb_trans HG5.out (grown_ext hx6)) (gb_trans hg1 hg2)
       have HT1:=Lib.hid ht1
       have HT2:=Lib.hid ht2
       have hs2' : RowS pasCells 6 base 75 g n c ((w6.setCells g (j * 6) (pasCells y)).setCells g ((j - 1) * 6) (pasCells x)) (Pp ++ (S1' ++ x :: ((y :: S2) ++ T))):=by simpa using hs2
       have HS2:=Lib.hid hs2'
       have HG6:=Lib.hid hG6
       clear ht1 ht2 hs1 hg1 hs2 hg2 hs2' hG6 hR6 hl1 hX_ hY_ HX5 HY5 HR5 HG5
       refine tailF 15 _ _ 2 (by kernel_rfl) rfl ?_ (fun a w q => tailF 16 _ _ 1 (by kernel_rfl) rfl q (fun a w q => tail1 17 _ (by kernel_rfl) (by kernel_rfl) rfl q))
       simp only [Lf,dstAt,Act.put,FR_]
       rw [e2,e4,e9,e13,e14]
       clear e2 e4 e9 e13 e14
       refine wpList_store_st rfl _ _ _ rfl g (j * 6) Y (pasCells y) HY.out rfl rfl HT1.out pas_size (by simp [pasCells,Value.oneCell']) ?_
       go_wp2_with (refine wpList_store_st rfl _ _ _ rfl g ((j - 1) * 6) X (pasCells x) HX.out rfl rfl HT2.out pas_size (by simp [pasCells,Value.oneCell']) ?_)
       refine Qn_of ?_
       generalize (w6.setCells g (j * 6) (pasCells y)).setCells g ((j - 1) * 6) (pasCells x) = w8 at HS2 HG6 ⊢
       have hA2 : ∀ z ∈ y :: S2,ltOf cv x z = true:=by
        intro z hz
        rcases List.mem_cons.1 hz with rfl | hz
        ·rw [ltOf,← HV.out]; exact hd
        ·exact HA.out z hz
       have HA2:=Lib.hid hA2
       have hss2 : S1' ++ y :: S2 = S:=by rw [← HSS.out,HS1.out]; simp
       have HSS2:=Lib.hid hss2
       have hjj : j - 1 = a + S1'.length:=by have h1:=HJ.out; rw [HS1.out] at h1; simp at h1; omega
       have HJJ:=Lib.hid hjj
       clear hA2 hss2 hjj
       go_wp2
       go_roundw
       case rel => exact ⟨j - 1,S1',y :: S2,by omega,by omega,by rw [show ((j - 1 : Nat) : Int) = (j : Int) - 1 by omega],HJJ,HSS2,HA2,HS2,HG6⟩
       case measure => simp [intOf]; omega
      ·have hd : decide (v_ < 0) = false:=by simpa using hv0
       have hfin : RowS pasCells 6 base 75 g n c w5 (insAt (ltOf cv) l a (k + 1)):=by
        have h:=HR5.out
        rw [HN.out,← HSS.out,HS1.out,insR_stop (ltOf cv) (S1' ++ [y]) S2 x (fun z hz => by simp at hz; subst hz; rw [ltOf,← HV.out]; exact hd) HA.out]
        simpa using h
       have HFIN:=Lib.hid hfin
       have HG7:=Lib.hid (gb_trans HG.out HG5.out)
       clear hfin
       go_wp2
       go_roundw
       case rel => exact ⟨k + 1,by omega,by omega,by go_num,HFIN,HG7⟩
       case measure => simp [intOf]; omega
     ·have hkd : decide (a < j) = false:=by simpa using haj2
      have hS1 : S1 = []:=by
       have h1:=HJ.out
       exact List.eq_nil_of_length_eq_zero (by omega)
      have hfin : RowS pasCells 6 base 75 g n c wi (insAt (ltOf cv) l a (k + 1)):=by
       have h:=HR1.out
       rw [HN.out,← HSS.out,hS1,insR_stop (ltOf cv) [] S2 x (fun z hz => by simp at hz) HA.out]
       rw [hS1] at h
       simpa using h
      have hgf:=gb_trans HG.out HG1.out
      have HF0:=Lib.hid hfin
      have HG0:=Lib.hid hgf
      clear hS1 hfin hgf HR1 HG1
      go_wp2_with fail
      refine wp_region_obl 17 (fun ix vals v w1 => match ix with | 0 => v = .int .i64 (j : Int) | 1 => v = .int .i64 (a : Int) | 2 => v = .bool false | 3 => v = .bool false | 4 => v = undef | 5 => v = undef | 6 => v = undef | 7 => v = undef | 8 => v = undef | 9 => v = undef | 10 => v = undef | 11 => v = undef | 12 => v = undef | 13 => v = undef | 14 => v = undef | 15 => v = undef | _ => v = .bool false) (by kernel_rfl) (by kernel_rfl) ?_ ?_ ?_ ?_
      ·intro ix vals v w1 w2 hi hr hx; exact hr
      ·intro ix vals vals_ v w1 hi hv hr
       exact hr
      ·refine ⟨?_,?_,?_,?_,?_,?_,?_,?_,?_,?_,?_,?_,?_,?_,?_,?_,?_,trivial⟩
       ·intro vals w1 hx hd ha
        clear hd ha
        simp only [Lf]
        go_wp2
        exact q_
       ·intro vals w1 hx hd ha
        clear hd ha
        simp only [Lf,dstAt,Act.put,FR_]
        go_wp2
        exact q_
       ·intro vals w1 hx hd ha
        have e0 : vals 0 = .int .i64 (j : Int):=hd 0 (by decide)
        have e1 : vals 1 = .int .i64 (a : Int):=hd 1 (by decide)
        clear hd ha
        simp only [Lf,dstAt,Act.put,FR_,e0,e1]
        clear e0 e1
        go_wp2
        exact q_
       ·intro vals w1 hx hd ha
        have e2 : vals 2 = .bool false:=hd 2 (by decide)
        clear hd ha
        simp only [Lf,dstAt,Act.put,FR_,e2]
        clear e2
        go_wp2
        exact q_
       ·intro vals w1 hx hd ha
        have e3 : vals 3 = .bool false:=hd 3 (by decide)
        clear hd ha
        simp only [Lf,dstAt,Act.put,FR_,e3]
        clear e3
        go_wp2
        exact q_
       ·intro vals w1 hx hd ha
        have e3 : vals 3 = .bool false:=hd 3 (by decide)
        clear hd ha
        simp only [Lf,dstAt,Act.put,FR_,e3]
        clear e3
        go_wp2
        exact q_
       ·intro vals w1 hx hd ha
        have e3 : vals 3 = .bool false:=hd 3 (by decide)
        clear hd ha
        simp only [Lf,dstAt,Act.put,FR_,e3]
        clear e3
        go_wp2
        exact q_
       ·intro vals w1 hx hd ha
        have e3 : vals 3 = .bool false:=hd 3 (by decide)
        have e5 : vals 5 = undef:=hd 5 (by decide)
        have e6 : vals 6 = undef:=hd 6 (by decide)
        clear hd ha
        simp only [Lf,dstAt,Act.put,FR_,e3,e5,e6]
        clear e3 e5 e6
        go_wp2
        exact q_
       ·intro vals w1 hx hd ha
        have e3 : vals 3 = .bool false:=hd 3 (by decide)
        have e7 : vals 7 = undef:=hd 7 (by decide)
        clear hd ha
        simp only [Lf,dstAt,Act.put,FR_,e3,e7]
        clear e3 e7
        go_wp2
        exact q_
       ·intro vals w1 hx hd ha
        have e3 : vals 3 = .bool false:=hd 3 (by decide)
        clear hd ha
        simp only [Lf,dstAt,Act.put,FR_,e3]
        clear e3
        go_wp2
        exact q_
       ·intro vals w1 hx hd ha
        have e3 : vals 3 = .bool false:=hd 3 (by decide)
        clear hd ha
        simp only [Lf,dstAt,Act.put,FR_,e3]
        clear e3
        go_wp2
        exact q_
       ·intro vals w1 hx hd ha
        have e3 : vals 3 = .bool false:=hd 3 (by decide)
        have e10 : vals 10 = undef:=hd 10 (by decide)
        clear hd ha
        simp only [Lf,dstAt,Act.put,FR_,e3,e10]
        clear e3 e10
        go_wp2
        exact q_
       ·intro vals w1 hx hd ha
        have e3 : vals 3 = .bool false:=hd 3 (by decide)
        have e9 : vals 9 = undef:=hd 9 (by decide)
        have e11 : vals 11 = undef:=hd 11 (by decide)
        clear hd ha
        simp only [Lf,dstAt,Act.put,FR_,e3,e9,e11]
        clear e3 e9 e11
        go_wp2
        exact q_
       ·intro vals w1 hx hd ha
        have e3 : vals 3 = .bool false:=hd 3 (by decide)
        have e12 : vals 12 = undef:=hd 12 (by decide)
        clear hd ha
        simp only [Lf,dstAt,Act.put,FR_,e3,e12]
        clear e3 e12
        go_wp2
        exact q_
       ·intro vals w1 hx hd ha
        have e3 : vals 3 = .bool false:=hd 3 (by decide)
        have e4 : vals 4 = undef:=hd 4 (by decide)
        have e8 : vals 8 = undef:=hd 8 (by decide)
        have e13 : vals 13 = undef:=hd 13 (by decide)
        clear hd ha
        simp only [Lf,dstAt,Act.put,FR_,e3,e4,e8,e13]
        clear e3 e4 e8 e13
        go_wp2
        exact q_
       ·intro vals w1 hx hd ha
        have e3 : vals 3 = .bool false:=hd 3 (by decide)
        have e14 : vals 14 = undef:=hd 14 (by decide)
        clear hd ha
        simp only [Lf,dstAt,Act.put,FR_,e3,e14]
        clear e3 e14
        go_wp2
        exact q_
       ·intro vals w1 hx hd ha
        have e3 : vals 3 = .bool false:=hd 3 (by decide)
        have e15 : vals 15 = undef:=hd 15 (by decide)
        clear hd ha
        simp only [Lf,dstAt,Act.put,FR_,e3,e15]
        clear e3 e15
        go_wp2
        exact q_
      intro vals w5 hx5 hf
      have e16 : vals 16 = .bool false:=hf 16 (by omega)
      clear hf
      have hx5:=hx5.undrew
      refine tail0 (by kernel_rfl) ?_
      simp only [Lf,dstAt,Act.put,FR_]
      rw [e16]
      clear e16
      have HFIN:=Lib.hid (HF0.out.ext hx5)
      have HG7:=Lib.hid (gb_trans HG0.out (grown_ext hx5))
      clear hx5
      go_wp2
      go_roundw
      case rel => exact ⟨k + 1,by omega,by omega,by go_num,HFIN,HG7⟩
      case measure => simp [intOf]; omega
   ·go_wp2
    have hkb2 : k = b:=by omega
    have HRB:=HR.out
    rw [hkb2] at HRB
    have HRB:=Lib.hid HRB
    clear hkb2
    go_end0
    exact ⟨rfl,HRB.out,HG.out⟩
 ·obtain rfl : a = b:=by omega
  have hr2 : insAt (ltOf cv) l a a = l:=by simp [insAt,sortP]
  rw [hr2]
  have HR:=Lib.hid hr
  clear hr hln hcmp hr2
  go_enter Tryz.func147,Tryz.ntmps147
  go_wp2
  go_loopw [8] (fun i wr => i = .int .i64 ((a : Int) + 1) ∧ wr = w) (fun _ _ => 0)
  case atStart => exact ⟨rfl,rfl⟩
  case round =>
   obtain ⟨rfl,rfl⟩:=hrel
   go_wp2
   go_end0
   exact ⟨rfl,HR.out,grown_refl _ _⟩
end Go.Proofs.YtjidhhfabfnhnaaGreat
namespace Go.Proofs.YtjidhhfabfnhnaaGreat
open Go.RowKit
theorem ins_nil (K : Nat) (caps : Array Value) (w : World) : Calls Tryz.prog 147 #[.slice none 0 0,.int .i64 0,.int .i64 0,.func (.func K) #[] caps] w fun e w' => e = .returned (.tuple #[]) ∧ w = w':=by
 go_enter Tryz.func147,Tryz.ntmps147
 go_wp2
 go_loopw [8] (fun i wr => i = .int .i64 1 ∧ wr = w) (fun _ _ => 0)
 case atStart => exact ⟨rfl,rfl⟩
 case round =>
  obtain ⟨rfl,rfl⟩:=hrel
  go_wp2
  go_end0
  exact ⟨rfl,rfl⟩
theorem stable_nil (K : Nat) (caps : Array Value) (w : World) : Calls Tryz.prog 106 #[.slice none 0 0,.int .i64 0,.func (.func K) #[] caps] w fun e w' => e = .returned (.tuple #[]) ∧ w = w':=by
 go_enter Tryz.func106,Tryz.ntmps106
 go_wp2
 go_loopw [7,8] (fun x y wr => x = .int .i64 0 ∧ y = .int .i64 20 ∧ wr = w) (fun _ _ _ => 0)
 case atStart => exact ⟨rfl,rfl,rfl⟩
 case round =>
  obtain ⟨rfl,rfl,rfl⟩:=hrel
  go_wp2_with (go_at_call 147; refine (ins_nil K caps _).mono ?_; rintro e w' ⟨rfl,rfl⟩)
  go_loopw [6] (fun x wi => x = .int .i64 20 ∧ wi = wr) (fun _ _ => 0)
  case atStart => exact ⟨rfl,rfl⟩
  case round =>
   obtain ⟨rfl,rfl⟩:=hrel
   go_wp2
   go_end0
   exact ⟨rfl,rfl⟩
theorem sort_nil (K : Nat) (caps : Array Value) (w : World) : Calls Tryz.prog 49 #[.slice none 0 0,.func (.func K) #[] caps] w fun e w' => e = .returned (.tuple #[]) ∧ w = w':=by
 go_enter Tryz.func49,Tryz.ntmps49
 go_wp2_with (go_at_call 106; refine (stable_nil K caps _).mono ?_; rintro e w' ⟨rfl,rfl⟩)
 go_end0
 exact ⟨rfl,rfl⟩
end Go.Proofs.YtjidhhfabfnhnaaGreat
namespace Go.Proofs.YtjidhhfabfnhnaaGreat
open Go.RowKit
def celCells (x : Cel) : List Value:=[.int .i64 x.x,.int .i64 x.y]
theorem cel_len (x : Cel) : (celCells x).length = 2:=rfl
def cellAt (o : Orb) (m : Int) : Cel:=⟨colP o m / 1000,rowP o m / 1000⟩
def trackP (o : Orb) (m : Int) (k : Nat) : List Cel:=(List.range k).map (fun j : Nat => cellAt o (m + j))
def plainP (o : Orb) (s : Stn) (m : Int) : Bool:=decide (nearP (cellAt o m) s.cell ≤ s.reach)
set_option maxHeartbeats 1000000 in
theorem plain_any (o : Orb) (id x y re an sk a b sl t : Int) (gt gr gp gl gs n c base : Nat) (w : World) (h1 : 0 ≤ sl ∧ sl ≤ 10) (h3 : a - sl ≤ t ∧ t < a - sl + n) (hn : n ≤ 10000)
  (KT : Blk w gt 146 #[.slice (some ⟨gr,0,none⟩) n c]) (KR : RowS celCells 2 base 69 gr n c w (trackP o (a - sl) n)) (KP : Blk w gp 32 #[.int .i64 a,.int .i64 b]) (KL : Blk w gl 3 #[.int .i64 sl])
  (KS : Blk w gs 71 #[.int .i64 id,.int .i64 x,.int .i64 y,.int .i64 re,.int .i64 an,.int .i64 sk]) :
  Calls Tryz.prog 89 #[.int .i64 t,.pointer (some ⟨gt,0,none⟩),.pointer (some ⟨gp,0,none⟩),.pointer (some ⟨gl,0,none⟩),.pointer (some ⟨gs,0,none⟩)] w fun e w' => e = .returned (.bool (plainP o ⟨id,⟨x,y⟩,re,an,sk⟩ t)) ∧ Below w.heap.size w w':=by
 obtain ⟨k,hk⟩ : ∃ k : Nat,t - a + sl = (k : Int):=⟨(t - a + sl).toNat,by omega⟩
 have hkn : k < n:=by omega
 have hkl : k < (trackP o (a - sl) n).length:=by simp [trackP]; exact hkn
 have hrg:=KR.range cel_len hkl
 have hkc : (trackP o (a - sl) n)[k] = cellAt o t:=by simp [trackP]; congr 1; omega
 rw [hkc] at hrg
 have hr0 : plainP o ⟨id,⟨x,y⟩,re,an,sk⟩ t = decide (nearP (cellAt o t) ⟨x,y⟩ ≤ re):=rfl
 rw [hr0]
 obtain ⟨cx,cy,hc⟩ : ∃ cx cy,cellAt o t = ⟨cx,cy⟩:=⟨_,_,rfl⟩
 rw [hc] at hrg ⊢
 have r0 : w.cell? ⟨gr,k * 2,none⟩ = some (.int .i64 cx):=hrg 0 _ rfl
 have r1 : w.cell? ⟨gr,k * 2 + 1,none⟩ = some (.int .i64 cy):=hrg 1 _ rfl
 have hnear:=near_any cx cy x y
 generalize nearP ⟨cx,cy⟩ ⟨x,y⟩ = N at hnear ⊢
 have HN:=Lib.hid hnear
 have hcap:=KR.le
 have q0 : w.cell? ⟨gt,0,none⟩ = some (.slice (some ⟨gr,0,none⟩) n c):=KT.cell 0
 have p0 : w.cell? ⟨gp,0,none⟩ = some (.int .i64 a):=KP.cell 0
 have l0 : w.cell? ⟨gl,0,none⟩ = some (.int .i64 sl):=KL.cell 0
 have s1 : w.cell? ⟨gs,1,none⟩ = some (.int .i64 x):=KS.cell 1
 have s2 : w.cell? ⟨gs,2,none⟩ = some (.int .i64 y):=KS.cell 2
 have s3 : w.cell? ⟨gs,3,none⟩ = some (.int .i64 re):=KS.cell 3
 have hw1 : IntKind.i64.wrap (t - a) = t - a:=IntWalk.i64_in _ (by omega)
 have hw2 : IntKind.i64.wrap (t - a + sl) = (k : Int):=by rw [hk]; exact IntWalk.i64_in _ (by omega)
 have hkb : (k : Int) < (n : Int):=by omega
 have HK:=Lib.hid hk
 clear hnear hrg hkc hkl hr0 hc KT KR KP KL KS hk
 go_enter Tryz.func89,Tryz.ntmps89
 go_wp2_with fail
 refine wp_region_obl 15 (fun ix vals v w1 => match ix with | 0 => v = .slice (some ⟨gr,0,none⟩) n c | 1 => v = .int .i64 t | 2 => v = .pointer (some ⟨gp,0,none⟩) | 3 => v = .int .i64 a | 4 => v = .int .i64 (t - a) | 5 => v = .int .i64 sl | 6 => v = .int .i64 (k : Int) | 7 => v = .pointer (some ⟨gr,k * 2,none⟩) | 8 => v = .agg #[.int .i64 cx,.int .i64 cy] | 9 => v = .pointer (some ⟨gs,1,none⟩) | 10 => v = .agg #[.int .i64 x,.int .i64 y] | 11 => v = .int .i64 N | 12 => v = .pointer (some ⟨gs,3,none⟩) | 13 => v = .int .i64 re | _ => v = .bool (decide (N ≤ re))) (by kernel_rfl) (by kernel_rfl) ?_ ?_ ?_ ?_
 ·intro ix vals v w1 w2 hi hr hx; exact hr
 ·intro ix vals vals_ v w1 hi hv hr
  exact hr
 ·refine ⟨?_,?_,?_,?_,?_,?_,?_,?_,?_,?_,?_,?_,?_,?_,?_,trivial⟩
  ·intro vals w1 hx hd ha
   clear hd ha
   simp only [Lf]
   have q0:=ext_cell hx q0
   go_wp2
   exact q_
  ·intro vals w1 hx hd ha
   clear hd ha
   simp only [Lf,dstAt,Act.put,FR_]
   go_wp2
   exact q_
  ·intro vals w1 hx hd ha
   clear hd ha
   simp only [Lf,dstAt,Act.put,FR_]
   go_wp2
   exact q_
  ·intro vals w1 hx hd ha
   have e2 : vals 2 = .pointer (some ⟨gp,0,none⟩):=hd 2 (by decide)
   clear hd ha
   simp only [Lf,dstAt,Act.put,FR_,e2]
   clear e2
   have p0:=ext_cell hx p0
   go_wp2
   exact q_
  ·intro vals w1 hx hd ha
   have e1 : vals 1 = .int .i64 t:=hd 1 (by decide)
   have e3 : vals 3 = .int .i64 a:=hd 3 (by decide)
   clear hd ha
   simp only [Lf,dstAt,Act.put,FR_,e1,e3]
   clear e1 e3
   go_wp2
   exact q_
  ·intro vals w1 hx hd ha
   clear hd ha
   simp only [Lf,dstAt,Act.put,FR_]
   have l0:=ext_cell hx l0
   go_wp2
   exact q_
  ·intro vals w1 hx hd ha
   have e4 : vals 4 = .int .i64 (t - a):=hd 4 (by decide)
   have e5 : vals 5 = .int .i64 sl:=hd 5 (by decide)
   clear hd ha
   simp only [Lf,dstAt,Act.put,FR_,e4,e5]
   clear e4 e5
   go_wp2
   exact q_
  ·intro vals w1 hx hd ha
   have e0 : vals 0 = .slice (some ⟨gr,0,none⟩) n c:=hd 0 (by decide)
   have e6 : vals 6 = .int .i64 (k : Int):=hd 6 (by decide)
   clear hd ha
   simp only [Lf,dstAt,Act.put,FR_,e0,e6]
   clear e0 e6
   go_wp2
   exact q_
  ·intro vals w1 hx hd ha
   have e7 : vals 7 = .pointer (some ⟨gr,k * 2,none⟩):=hd 7 (by decide)
   clear hd ha
   simp only [Lf,dstAt,Act.put,FR_]
   have r0:=ext_cell hx r0
   have r1:=ext_cell hx r1
   simp only [e7]
   clear e7
   go_wp2
   exact q_
  ·intro vals w1 hx hd ha
   clear hd ha
   simp only [Lf,dstAt,Act.put,FR_]
   go_wp2
   exact q_
  ·intro vals w1 hx hd ha
   have e9 : vals 9 = .pointer (some ⟨gs,1,none⟩):=hd 9 (by decide)
   clear hd ha
   simp only [Lf,dstAt,Act.put,FR_,e9]
   clear e9
   have s1:=ext_cell hx s1
   have s2:=ext_cell hx s2
   go_wp2
   exact q_
  ·intro vals w1 hx hd ha
   have e8 : vals 8 = .agg #[.int .i64 cx,.int .i64 cy]:=hd 8 (by decide)
   have e10 : vals 10 = .agg #[.int .i64 x,.int .i64 y]:=hd 10 (by decide)
   clear hd ha
   simp only [Lf,dstAt,Act.put,FR_,e8]
   simp only [e10]
   clear e8 e10
   go_wp2_with fail
   refine (HN.out _).mono ?_
   rintro e w2 ⟨rfl,hb2⟩
   go_wp2
   exact ⟨rfl,hb2,rfl⟩
  ·intro vals w1 hx hd ha
   clear hd ha
   simp only [Lf,dstAt,Act.put,FR_]
   go_wp2
   exact q_
  ·intro vals w1 hx hd ha
   have e12 : vals 12 = .pointer (some ⟨gs,3,none⟩):=hd 12 (by decide)
   clear hd ha
   simp only [Lf,dstAt,Act.put,FR_,e12]
   clear e12
   have s3:=ext_cell hx s3
   go_wp2
   exact q_
  ·intro vals w1 hx hd ha
   have e11 : vals 11 = .int .i64 N:=hd 11 (by decide)
   have e13 : vals 13 = .int .i64 re:=hd 13 (by decide)
   clear hd ha
   simp only [Lf,dstAt,Act.put,FR_,e11,e13]
   clear e11 e13
   go_wp2
   exact q_
 intro vals w5 hx hf
 have e14 : vals 14 = .bool (decide (N ≤ re)):=hf 14 (by omega)
 clear hf
 have hB5 : Below w.heap.size w w5:=hx.undrew
 refine tail1 15 _ (by kernel_rfl) (by kernel_rfl) rfl ?_
 simp only [Lf,dstAt,Act.put,FR_]
 rw [e14]
 go_wp2
 go_ret
 exact ⟨rfl,hB5⟩
end Go.Proofs.YtjidhhfabfnhnaaGreat
