/- Stretches. -/
import Derived.Test.YtjidhhfabfnhnaaGreatK14
import Derived.Test.YtjidhhfabfnhnaaGreatK13
import Derived.Test.YtjidhhfabfnhnaaGreatK02
namespace Go.Proofs.YtjidhhfabfnhnaaGreat
open Go.RowKit Go.Shelf
def passOne (s : St) (st : Stn) (span x : Spl) : Pas:=⟨s.id,st.id,widerP x (-s.orbit.slack) span,widerP x s.orbit.slack span⟩
def pairP (s : St) (span : Spl) (st : Stn) : List Pas:=(spellsP (plainP s.orbit st) (span.fr - s.orbit.slack) (span.tt - span.fr + 2 * s.orbit.slack).toNat).map (passOne s st span)
def allP (sats : List St) (stns : List Stn) (span : Spl) : List Pas:=sats.flatMap fun s => stns.flatMap (pairP s span)
def ltPas (x y : Pas) : Bool:=ltOf cmpPas x y
def passesP (sats : List St) (stns : List Stn) (span : Spl) : Option (List Pas) :=
 if (spanOK span && satsOK sats && stnsOK stns) = true then (if (allP sats stns span).length ≤ 64 then some (sortP (ltOf cmpPas) (allP sats stns span)) else none) else none
def mark (D : Nat) : Deferred:={ target:=.collected D,args:=#[] }
structure MarksOK (B : Nat) (Ds : List Nat) (W : World) : Prop where
 nodup : Ds.Nodup
 ok : ∀ D ∈ Ds,B ≤ D ∧ W.heap[D]? = some (.deferred (some []))
theorem MarksOK.nil (B : Nat) (W : World) : MarksOK B [] W:=⟨List.nodup_nil,fun D h => by cases h⟩
theorem MarksOK.lt {B : Nat} {Ds : List Nat} {W : World} (h : MarksOK B Ds W) : ∀ D ∈ Ds,D < W.heap.size:=fun D hD => (Array.getElem?_eq_some_iff.1 (h.ok D hD).2).1
theorem MarksOK.keeps {B : Nat} {Ds : List Nat} {W W' : World} (h : MarksOK B Ds W) (hk : KeepsOthers W W') : MarksOK B Ds W':=⟨h.nodup,fun D hD => ⟨(h.ok D hD).1,hk.same D _ (h.ok D hD).2 rfl⟩⟩
theorem MarksOK.ext {B : Nat} {Ds : List Nat} {W W' : World} (h : MarksOK B Ds W) (hx : Ext W W') : MarksOK B Ds W':=⟨h.nodup,fun D hD => ⟨(h.ok D hD).1,(hx.block D (h.lt D hD)).trans (h.ok D hD).2⟩⟩
theorem MarksOK.cons {B : Nat} {Ds : List Nat} {W : World} {D : Nat} (h : MarksOK B Ds W) (hB : B ≤ D) (hD : W.heap[D]? = some (.deferred (some []))) (hn : D ∉ Ds) : MarksOK B (D :: Ds) W :=
 ⟨List.nodup_cons.2 ⟨hn,h.nodup⟩,fun E hE => by
  rcases List.mem_cons.1 hE with rfl | hE
  ·exact ⟨hB,hD⟩
  ·exact h.ok E hE⟩
theorem leave_marks {F : Fence} {n : Nat} {P : Program} {fn : Func} {tmps : Array Value} {R : Ending → World → Prop} {B : Nat} {J : World → Prop} (hJ : OwnFrom B (fun (_ : Unit) W => J W))
  (hfin : ∀ W,J W → ∃ v,(results fn tmps).run P W = .ok v W ∧ R (.returned v) W) : ∀ (Ds : List Nat) (W : World),MarksOK B Ds W → J W → LeavesInM F n P fn tmps R (Ds.map mark) .returning W:=by
 intro Ds
 induction Ds with
 | nil => intro W _ h; exact hfin W h
 | cons D Ds ih =>
  intro W hm h
  have hD:=hm.ok D (List.mem_cons_self ..)
  have hn:=List.nodup_cons.1 hm.nodup
  refine ⟨by simp,.inl ⟨D,W.putObj D (.deferred none),rfl,run_takeDeferred hD.2,ih _ ⟨hn.2,fun E hE => ?_⟩ ?_⟩⟩
  ·have:=hm.ok E (List.mem_cons_of_mem _ hE)
   exact ⟨this.1,(World.putObj_heap_other (fun e => hn.1 (by cases e; exact hE))).trans this.2⟩
  ·exact hJ () W _ (some D) h (grownBy_putObj' W D _) (fun r e => by cases e; exact ⟨hD.1,_,hD.2,rfl⟩)
theorem cell_view {o : Orb} (ho : orbOK o = true) {m : Int} (h1 : -10 ≤ m) (h2 : m ≤ 1000010) : atP o (min 1000000 (max 0 m)) (min 1000000 (max 0 m) - m) = some (cellAt o m):=by
 have e : min 1000000 (max 0 m) - (min 1000000 (max 0 m) - m) = m:=by omega
 have h3 : (inB (min 1000000 (max 0 m)) 0 1000000 && inB (min 1000000 (max 0 m) - m) (-10) 10 && orbOK o) = true:=by
  rw [ho,Bool.and_true,Bool.and_eq_true,inB_iff,inB_iff]
  omega
 rw [atP,if_pos h3,e]
 rfl
theorem trackP_succ (o : Orb) (m : Int) (k : Nat) : trackP o m (k + 1) = trackP o m k ++ [cellAt o (m + k)]:=by simp [trackP,List.range_succ]
theorem sats_at {l : List St} (h : satsOK l = true) : l.length ≤ 24 ∧ ∀ x ∈ l,satOK x = true:=by
 simp only [satsOK,Bool.and_eq_true,decide_eq_true_eq] at h
 refine ⟨h.1,?_⟩
 have : ∀ (l : List St) (p : Option St),listOK satOK (fun x => x.id) p l = true → ∀ x ∈ l,satOK x = true:=by
  intro l
  induction l with
  | nil => intro p _ x hx; cases hx
  | cons y r ih =>
   intro p hp x hx
   simp only [listOK,Bool.and_eq_true] at hp
   rcases List.mem_cons.1 hx with rfl | hx
   ·exact hp.1.1
   ·exact ih _ hp.2 x hx
 exact this l none h.2
theorem stns_at {l : List Stn} (h : stnsOK l = true) : l.length ≤ 12 ∧ ∀ x ∈ l,stnOK x = true:=by
 simp only [stnsOK,Bool.and_eq_true,decide_eq_true_eq] at h
 refine ⟨h.1,?_⟩
 have : ∀ (l : List Stn) (p : Option Stn),listOK stnOK (fun x => x.id) p l = true → ∀ x ∈ l,stnOK x = true:=by
  intro l
  induction l with
  | nil => intro p _ x hx; cases hx
  | cons y r ih =>
   intro p hp x hx
   simp only [listOK,Bool.and_eq_true] at hp
   rcases List.mem_cons.1 hx with rfl | hx
   ·exact hp.1.1
   ·exact ih _ hp.2 x hx
 exact this l none h.2
theorem sat_orb {x : St} (h : satOK x = true) : orbOK x.orbit = true ∧ 0 ≤ x.orbit.slack ∧ x.orbit.slack ≤ 10:=by
 simp only [satOK,Bool.and_eq_true] at h
 have h1 : orbOK x.orbit = true:=by simp only [h]
 refine ⟨h1,?_⟩
 simp only [orbOK,Bool.and_eq_true,inB_iff] at h1
 exact h1.2
theorem wpListIn_load_st {F : Fence} {n : Nat} {P : Program} {ops : Array Oper} {rest : List Oper} {op : Oper} {a : Act} {w : World} {Q : Exit → Act → World → Prop} (hgd : op.guard = none) (ty : TypeId) (x : Operand) (ho : op.op = .load ty x)
  (b o : Nat) (hx : a.eval x = .pointer (some ⟨b,o,none⟩)) (X : Array Value) (cs : List Value) (hX : cs.toArray = X) (d : TypeDesc) (hc : w.rangeAt b o cs)
  (hu : P.underlying ty = some d) (hd : d.isRow = true) (hi : (P.info? ty).map (·.size) = some cs.length)
  (h : wpListIn F n P ops Q rest (a.put op.dst (.agg X)) w) : wpListIn F n P ops Q (op :: rest) a w:=by
 subst hX
 refine wpListIn_plain hgd fun K hK => ?_
 unfold Oper.wpIn
 refine ⟨?_,?_⟩
 ·simp [Oper.about,ho]
 ·rw [Oper.semAt_plain F _ _ (by rw [ho]; intro c hc'; cases hc')]
  unfold execOp
  simp only [ho,hx,Instr.loadAt,Instr.sureAddr,Sem.run_bind,Sem.run_pure,Result.andThen_ok,run_loadVar_mid w b o ty cs d hc hu hd hi]
  exact hK _ _ h
theorem wpListIn_store_new {F : Fence} {n : Nat} {P : Program} {ops : Array Oper} {rest : List Oper} {op : Oper} {a : Act} {w : World} {Q : Exit → Act → World → Prop} (hgd : op.guard = none) (ty : TypeId) (x y : Operand) (ho : op.op = .store ty x y)
  (zs X : Array Value) (hx : a.eval x = .pointer (some ⟨w.heap.size,0,none⟩)) (hy : a.eval y = .agg X) (hi : (P.info? ty).map (·.size) = some X.size) (hz : zs.size = X.size) (h1 : X.all (·.oneCell') = true)
  (h : wpListIn F n P ops Q rest (a.put op.dst undef) (w.alloc (.cells X ty))) : wpListIn F n P ops Q (op :: rest) a (w.alloc (.cells zs ty)):=by
 refine wpListIn_plain hgd fun K hK => ?_
 unfold Oper.wpIn
 refine ⟨?_,?_⟩
 ·simp [Oper.about,ho]
 ·rw [Oper.semAt_plain F _ _ (by rw [ho]; intro c hc'; cases hc')]
  unfold execOp
  simp only [ho,hx,hy,Instr.storeAt,Instr.sureAddr,Sem.run_bind,Sem.run_pure,Result.andThen_ok,run_storeVar_row (P:=P) (w.alloc (.cells zs ty)) w.heap.size ty ty zs X (heap_alloc_new w _) hi hz h1,setRow_new]
  exact hK _ _ h
end Go.Proofs.YtjidhhfabfnhnaaGreat
namespace Go.Proofs.YtjidhhfabfnhnaaGreat
open Go.RowKit Go.Shelf
attribute [local go_sem] Oper.semAt_some
theorem eqF_int {P : Program} {w : World} {d : Nat} {xs ys : Array Value} {f : Field} {fs : List Field} {a b : Int} (hn : f.name ≠ "_") (ha : (part f.type xs f.offset).run P w = .ok (.int .i64 a) w) (hb : (part f.type ys f.offset).run P w = .ok (.int .i64 b) w) (hi : P.underlying f.type = some (.int .i64)) :
  (Op.eqFields (d + 1) xs ys (f :: fs)).run P w = if a = b then (Op.eqFields (d + 1) xs ys fs).run P w else .ok false w:=by
 rw [Op.eqFields,if_pos hn]
 simp only [Sem.run_bind,ha,Result.andThen_ok,hb,run_equalIn_int w d f.type .i64 .i64 a b hi]
 by_cases h : a = b
 ·rw [if_pos h,if_neg (by simp [h])]
 ·rw [if_neg h,if_pos (by simpa using h)]
  rfl
set_option maxRecDepth 100000 in
theorem eqIn_orb (s t : Orb) (n : Nat) (w : World) : (Op.equalIn (n + 2) 51 (.agg (orbCells s).toArray) (.agg (orbCells t).toArray)).run Tryz.prog w = .ok (decide (s = t)) w:=by
 have hu:=Tryz.underlying51
 have hi:=Tryz.underlying3
 obtain ⟨a0,a1,a2,a3,a4,a5,a6⟩:=s
 obtain ⟨b0,b1,b2,b3,b4,b5,b6⟩:=t
 have hst : Tryz.prog.stoodInHeld 51 = false:=by kernel_rfl
 have ht : Tryz.prog.underlying 51 = some (.struct (Tryz.prog.fieldsOf 51)):=by kernel_rfl
 have hF:=congrArg (fun x => match x with | some (TypeDesc.struct fs) => fs | _ => #[]) (ht.symm.trans hu)
 dsimp only at hF
 rw [run_equalIn_agg w (n + 1) _ _ _ ht hst,hF]
 refine Eq.trans (eqF_int (a:=a0) (b:=b0) (by decide) (by kernel_rfl) (by kernel_rfl) hi) ?_
 by_cases h0 : a0 = b0
 ·rw [if_pos h0]
  refine Eq.trans (eqF_int (a:=a1) (b:=b1) (by decide) (by kernel_rfl) (by kernel_rfl) hi) ?_
  by_cases h1 : a1 = b1
  ·rw [if_pos h1]
   refine Eq.trans (eqF_int (a:=a2) (b:=b2) (by decide) (by kernel_rfl) (by kernel_rfl) hi) ?_
   by_cases h2 : a2 = b2
   ·rw [if_pos h2]
    refine Eq.trans (eqF_int (a:=a3) (b:=b3) (by decide) (by kernel_rfl) (by kernel_rfl) hi) ?_
    by_cases h3 : a3 = b3
    ·rw [if_pos h3]
     refine Eq.trans (eqF_int (a:=a4) (b:=b4) (by decide) (by kernel_rfl) (by kernel_rfl) hi) ?_
     by_cases h4 : a4 = b4
     ·rw [if_pos h4]
      refine Eq.trans (eqF_int (a:=a5) (b:=b5) (by decide) (by kernel_rfl) (by kernel_rfl) hi) ?_
      by_cases h5 : a5 = b5
      ·rw [if_pos h5]
       refine Eq.trans (eqF_int (a:=a6) (b:=b6) (by decide) (by kernel_rfl) (by kernel_rfl) hi) ?_
       by_cases h6 : a6 = b6
       ·rw [if_pos h6]
        rw [decide_eq_true (by simp [h0,h1,h2,h3,h4,h5,h6])]
        rfl
       ·rw [if_neg h6,decide_eq_false (fun h => h6 (by injection h))]
      ·rw [if_neg h5,decide_eq_false (fun h => h5 (by injection h))]
     ·rw [if_neg h4,decide_eq_false (fun h => h4 (by injection h))]
    ·rw [if_neg h3,decide_eq_false (fun h => h3 (by injection h))]
   ·rw [if_neg h2,decide_eq_false (fun h => h2 (by injection h))]
  ·rw [if_neg h1,decide_eq_false (fun h => h1 (by injection h))]
 ·rw [if_neg h0,decide_eq_false (fun h => h0 (by injection h))]
theorem eq_orb (a b : Orb) (w : World) : (binOp .eql 51 (.agg (orbCells a).toArray) (.agg (orbCells b).toArray)).run Tryz.prog w = .ok (.bool (decide (a = b))) w:=by
 have h:=eqIn_orb a b 9998 w
 rw [run_eql_struct]
 exact (congrArg (fun r => Result.andThen r fun b w' => .ok (Value.bool b) w') h)
theorem neq_orb (a b : Orb) (w : World) : (binOp .neq 51 (.agg (orbCells a).toArray) (.agg (orbCells b).toArray)).run Tryz.prog w = .ok (.bool (!decide (a = b))) w:=by
 have h:=eqIn_orb a b 9998 w
 rw [run_neq_struct]
 exact (congrArg (fun r => Result.andThen r fun b w' => .ok (Value.bool (!b)) w') h)
structure KpB (ex : Nat → Prop) (B1 B0 : Nat) (X Y : World) : Prop where
 low : Below B1 X Y
 blk : ∀ k,B1 ≤ k → k < B0 → ¬ ex k → Y.heap[k]? = X.heap[k]?
section
variable {ex : Nat → Prop} {B1 B0 : Nat} {A B C : World}
theorem KpB.trans (h : KpB ex B1 B0 A B) (k : KpB ex B1 B0 B C) : KpB ex B1 B0 A C :=
 ⟨Below.trans h.low k.low,fun i h1 h2 h3 => (k.blk i h1 h2 h3).trans (h.blk i h1 h2 h3)⟩
theorem KpB.ext (h : Ext A B) (h1 : B1 ≤ B0) (h0 : B0 ≤ A.heap.size) : KpB ex B1 B0 A B:=⟨h.mono (Nat.le_trans h1 h0),fun k _ hk _ => h.block k (by omega)⟩
theorem KpB.get (h : KpB ex B1 B0 A B) {k : Nat} (hk : k < B0) (hx : ¬ ex k) : B.heap[k]? = A.heap[k]?:=by
 by_cases h1 : k < B1
 ·exact h.low.block k h1
 ·exact h.blk k (by omega) hk hx
theorem KpB.blk_ {g : Nat} {t : TypeId} {cs : Array Value} (h : KpB ex B1 B0 A B) (hb : Blk A g t cs) (hx : ¬ ex g ∧ g < B0) : Blk B g t cs:=(h.get hx.2 hx.1).trans hb
theorem KpB.step {ex : Nat → Prop} {B1 B0 : Nat} {X Y : World} {row : Option Nat} (hg : X.grownBy Y row) (h1 : B1 ≤ B0) (h0 : B0 ≤ X.heap.size) (hr : ∀ r,row = some r → (ex r ∧ B1 ≤ r) ∨ B0 ≤ r) : KpB ex B1 B0 X Y :=
 ⟨⟨hg.os,hg.tape,hg.output,hg.size,fun k hk => hg.block k (by omega) fun e => by rcases hr k e.symm with h | h <;> omega⟩,
  fun k _ hk hx => hg.block k (by omega) fun e => by rcases hr k e.symm with h | h; exact hx h.1; omega⟩
theorem putObj_kept {B0 B1 : Nat} {ex : Nat → Prop} (h1 : B1 ≤ B0) (W : World) (l : Nat) (o o' : Obj) (hl : B0 ≤ l) (ho : W.heap[l]? = some o) : KpB ex B1 B0 W (W.putObj l o') :=
 KpB.step (grownBy_putObj' W l o') h1 (by have:=(Array.getElem?_eq_some_iff.1 ho).1; omega) (fun r e => by cases e; exact .inr hl)
end
theorem strs_fn (P : Array Value) (a b : Int) (w : World) :
  Calls Tryz.prog 48 #[.agg P,.agg #[.int .i64 a,.int .i64 b]] w fun e w' => e = .returned (.func (.func 105) #[] #[.pointer (some ⟨w.heap.size + 1,0,none⟩),.pointer (some ⟨w.heap.size,0,none⟩)]) ∧
   w' = (w.alloc (.cells P 117)).alloc (.cells #[.int .i64 a,.int .i64 b] 32):=by
 go_enter Tryz.func48,Tryz.ntmps48
 go_wp2
 go_ret
 exact ⟨rfl,rfl⟩
theorem wpListIn_build2 {F : Fence} {n : Nat} {P : Program} {ops : Array Oper} {rest : List Oper} {o : Oper} {a : Act} {w : World} {Q : Exit → Act → World → Prop} (hg : o.guard = none) (t : TypeId) (x y : Operand) (ho : o.op = .build t #[(0,x),(1,y)]) {vx vy : Value} (X : Array Value)
  (hx : a.eval x = vx) (hy : a.eval y = vy) (hb : P.built t [(0,vx),(1,vy)] = some X) (h : wpListIn F n P ops Q rest (a.put o.dst (.agg X)) w) : wpListIn F n P ops Q (o :: rest) a w:=by
 have e : (Instr.build t #[(0,vx),(1,vy)]).run P w = .ok (.agg X) w:=run_build w t _ X hb
 refine wpListIn_plain hg fun K hK' => ?_
 unfold Oper.wpIn
 refine ⟨?_,?_⟩
 ·simp [Oper.about,ho]
 ·rw [Oper.semAt_plain F _ _ (by rw [ho]; intro c hc'; cases hc')]
  simp [execOp,ho,hx,hy,e,Result.andThen]
  exact hK' _ _ h
theorem str_built (a b : Int) (o : Orb) : Tryz.prog.built 96 [(0,.agg #[.int .i64 a,.int .i64 b]),(1,.agg (orbCells o).toArray)] = some (strCells ⟨⟨a,b⟩,o⟩).toArray:=by
 obtain ⟨p,f,lo,hi,no,tu,sl⟩:=o
 kernel_rfl
theorem str_orb (s : Str) : ∀ j v,(orbCells s.orb)[j]? = some v → (strCells s).toArray[2 + j]? = some v:=by
 intro j v h
 have hj : j < 7:=(List.getElem?_eq_some_iff.1 h).1
 match j,hj with
 | 0,_ => exact h
 | 1,_ => exact h
 | 2,_ => exact h
 | 3,_ => exact h
 | 4,_ => exact h
 | 5,_ => exact h
 | 6,_ => exact h
theorem str_lit (s : Str) (X : Array Value) (h : (strCells s).toArray = X) : X.size = 9 ∧ X.all (·.oneCell') = true:=by
 subst h
 exact ⟨rfl,str_one s⟩
theorem pth_lit (x : St) (A : Option Addr) (n c : Nat) (kn : Int) (X : Array Value) (h : (pthCells x A n c kn).toArray = X) : X.size = 23 ∧ X.all (·.oneCell') = true ∧ X.toList = pthCells x A n c kn:=by
 subst h
 exact ⟨rfl,pth_one x A n c kn,rfl⟩
end Go.Proofs.YtjidhhfabfnhnaaGreat
namespace Go.Proofs.YtjidhhfabfnhnaaGreat
open Go.RowKit Go.Shelf
attribute [local go_sem] Oper.semAt_some
abbrev BStr:={ s : Str // -1000000 ≤ s.sp.fr ∧ s.sp.fr ≤ 10000000 ∧ -1000000 ≤ s.sp.tt ∧ s.sp.tt ≤ 10000000 }
def encS (s : BStr) : Array Value:=#[.agg (strCells s.1).toArray]
set_option maxRecDepth 100000 in
set_option maxHeartbeats 2000000 in
theorem str1_in (ex : Nat → Prop) (B1 B0 bs bp : Nat) (x : St) (l : List Upd) (A : Option Addr) (un uc : Nat) (kn fr tt : Int) (G : List BStr → World → Prop) (n : Nat) (w : World) (hB1 : B1 ≤ B0) (hB0 : B0 ≤ w.heap.size)
  (hU : RA updCells 10 w B1 A un uc l) (ks : Blk w bs 32 #[.int .i64 fr,.int .i64 tt]) (kp : Blk w bp 117 (pthCells x A un uc kn).toArray) (hs : ¬ ex bs ∧ bs < B0) (hp : ¬ ex bp ∧ bp < B0)
  (b1 : -1000000 ≤ fr) (b2 : fr ≤ tt) (b3 : tt ≤ 10000000) :
  SeqG n Tryz.prog 105 #[.pointer (some ⟨bs,0,none⟩),.pointer (some ⟨bp,0,none⟩)] encS (KpB ex B1 B0) G (fun xs => xs.map (·.1) = strP (orbE x l kn) fr (tt - fr).toNat) (fun pre => pre.map (·.1) <+: strP (orbE x l kn) fr (tt - fr).toNat) (strP (orbE x l kn) fr (tt - fr).toNat).length w:=by
 intro ly J Jx W hW hJ hJx hJG hY h0
 obtain ⟨f,hf⟩ : ∃ f,f = orbE x l kn:=⟨_,rfl⟩
 have horb : ∀ (t : Int) (W2 : World),KpB ex B1 B0 w W2 → Calls Tryz.prog 53 #[.agg (pthCells x A un uc kn).toArray,.int .i64 t] W2 fun e w' => e = .returned (.agg (orbCells (f t)).toArray) ∧ Ext W2 w':=fun t W2 hk => by
  rw [hf]
  have hk2 : B1 ≤ W2.heap.size:=Nat.le_trans hB1 (Nat.le_trans hB0 hk.low.size)
  exact orb_any x l A un uc kn t W2 ((hU.below hk.low).more hk2)
 obtain ⟨P,hP⟩ : ∃ P,(pthCells x A un uc kn).toArray = P:=⟨_,rfl⟩
 obtain ⟨hPs,hP1,hPl⟩:=pth_lit x A un uc kn P hP
 rw [hP] at horb kp
 rw [← hf] at hY ⊢
 have HPP:=Lib.hid hP
 have HPL:=Lib.hid hPl
 have HORB:=Lib.hid horb
 refine callsIn_of_wp Tryz.func105 rfl trivial ?_ rfl
 simp only [Tryz.ntmps105,List.size_toArray,List.length_cons,List.length_nil,Nat.reduceAdd,Nat.reduceSub,Array.replicate_succ,Array.replicate_zero,List.push_toArray,List.append_toArray,List.nil_append,List.cons_append]
 have HY:=Lib.hid hY
 have HJ:=Lib.hid hJ
 have hKW : KpB ex B1 B0 w W:=KpB.ext hW hB1 hB0
 have hWs : W.heap.size ≤ W.heap.size:=Nat.le_refl _
 have hw0 : w.heap.size ≤ W.heap.size:=hW.size
 have c0 : W.cell? ⟨bs,0,none⟩ = some (.int .i64 fr):=(hKW.blk_ ks hs).cell 0
 have HS0 : Hid (([] : List BStr).map (·.1) ++ strP f fr (tt - fr).toNat = strP f fr (tt - fr).toNat):=Lib.hid rfl
 clear hY hJ hJx hU hf horb hP hPs hP1 hPl hJG
 gi_wp2
 gi_loopw [4] (fun v wr => ∃ (t : Int) (pre : List BStr),v = .int .i64 t ∧ fr ≤ t ∧ t ≤ tt ∧ Hid (pre.map (·.1) ++ strP f t (tt - t).toNat = strP f fr (tt - fr).toNat) ∧ J pre wr ∧ KpB ex B1 B0 w wr ∧ W.heap.size ≤ wr.heap.size)
  (fun v _ => (tt - intOf v).toNat)
 case atStart => exact ⟨fr,[],rfl,by omega,by omega,HS0,h0,hKW,hWs⟩
 case round =>
  clear HS0 h0 hKW c0
  obtain ⟨t,pre,rfl,ht1,ht2,HS,hJp,hK,hsz⟩:=hrel
  have c1 : wr.cell? ⟨bs,1,none⟩ = some (.int .i64 tt):=(hK.blk_ ks hs).cell 1
  by_cases hlt : t < tt
  ·have hcall:=HORB.out t wr hK
   have KP:=hK.blk_ kp hp
   obtain ⟨Y,hY⟩ : ∃ Y,(orbCells (f t)).toArray = Y:=⟨_,rfl⟩
   rw [hY] at hcall
   have HC:=Lib.hid hcall
   have HYY:=Lib.hid hY
   have HKP:=Lib.hid KP
   have hbu:=str_built t t (f t)
   obtain ⟨X,hX⟩ : ∃ X,(strCells ⟨⟨t,t⟩,f t⟩).toArray = X:=⟨_,rfl⟩
   obtain ⟨hXs,hX1⟩:=str_lit _ X hX
   rw [hX,hY] at hbu
   have HXX:=Lib.hid hX
   have HXS:=Lib.hid hXs
   have HX1:=Lib.hid hX1
   have HBU:=Lib.hid hbu
   clear hcall hY KP hbu hX hXs hX1
   gi_wp2_with (refine wpListIn_load_st rfl _ _ rfl bp 0 rfl P (pthCells x A un uc kn) HPP.out _ (Blk.range HKP.out (pthCells x A un uc kn) HPL.out) Tryz.underlying117 rfl pth_size ?_)
   refine ⟨trivial,(fun h => by cases h),(callsIn_wide.2 HC.out).mono ?_⟩
   rintro e W2 ⟨rfl,hb2⟩
   have hB2 : B0 ≤ wr.heap.size:=Nat.le_trans hB0 (Nat.le_trans hw0 hsz)
   have hK2 : KpB ex B1 B0 w W2:=hK.trans (KpB.ext hb2 hB1 hB2)
   have hJ2 : J pre W2:=HJ.out _ _ _ none hJp (ext_grown hb2) (fun r e => by cases e)
   have hsz2 : W.heap.size ≤ W2.heap.size:=Nat.le_trans hsz hb2.size
   have hB2' : B0 ≤ W2.heap.size:=Nat.le_trans hB2 hb2.size
   clear HC hJp hK hsz c1 hb2 HKP hB2
   have K3:=Blk.new W2 96 X
   have hx3 : Ext W2 (W2.alloc (.cells X 96)):=bl_alloc (Below.refl _ _) _
   gi_wp2_with (first | (refine wpListIn_build2 rfl _ _ _ rfl X rfl rfl HBU.out ?_) | (refine wpListIn_store_new rfl 96 _ _ rfl _ X rfl rfl (by rw [HXS.out]; exact str_size) (by rw [HXS.out]; rfl) HX1.out ?_))
   obtain ⟨gb,hgb⟩ : ∃ gb,gb = W2.heap.size:=⟨_,rfl⟩
   rw [← hgb] at K3 ⊢
   generalize W2.alloc (.cells X 96) = W3 at K3 hx3 ⊢
   have HX3:=Lib.hid hx3
   have HG:=Lib.hid hgb
   have HK3:=Lib.hid K3
   clear hx3 hgb K3
   dsimp only [Act.put]
   gi_loopw [4] (fun v wi => ∃ k : Nat,v = .int .i64 (t + k) ∧ t + k ≤ tt ∧ Hid (∀ i : Nat,i < k → f (t + i) = f t) ∧ Hid (Blk wi gb 96 X) ∧ Hid (Ext W2 wi)) (fun v _ => (tt - intOf v).toNat)
   case atStart => exact ⟨0,by simp,by omega,Lib.hid (fun i hi => absurd hi (by omega)),HK3,HX3⟩
   case round =>
    clear HK3 HX3
    obtain ⟨k,rfl,hk,HI,HKI,HXI⟩:=hrel
    have hKi : KpB ex B1 B0 w wr:=hK2.trans (KpB.ext HXI.out hB1 hB2')
    have c1 : wr.cell? ⟨bs,1,none⟩ = some (.int .i64 tt):=(hKi.blk_ ks hs).cell 1
    by_cases hlk : t + k < tt
    ·have hcall : ∀ W5,Ext wr W5 → Calls Tryz.prog 53 #[.agg P,.int .i64 (t + k)] W5 fun e w' => e = .returned (.agg (orbCells (f (t + k))).toArray) ∧ Ext W5 w':=fun W5 hx => HORB.out (t + k) W5 (hKi.trans (KpB.ext hx hB1 (Nat.le_trans hB2' HXI.out.size)))
     have hkp : ∀ W5,Ext wr W5 → W5.rangeAt bp 0 (pthCells x A un uc kn):=fun W5 hx => Blk.range ((hKi.blk_ kp hp).ext hx) (pthCells x A un uc kn) HPL.out
     have hko : ∀ W5,Ext wr W5 → W5.rangeAt gb 2 (orbCells (f t)):=fun W5 hx => Blk.part (HKI.out.ext hx) 2 _ (by rw [← HXX.out]; exact str_orb ⟨⟨t,t⟩,f t⟩)
     obtain ⟨Y2,hY2⟩ : ∃ Y,(orbCells (f (t + k))).toArray = Y:=⟨_,rfl⟩
     have heq:=eq_orb (f (t + k)) (f t)
     obtain ⟨z,hz⟩ : ∃ z,z = decide (f (t + k) = f t):=⟨_,rfl⟩
     rw [hY2] at hcall
     rw [← hz,hY2,HYY.out] at heq
     have HC:=Lib.hid hcall
     have HKP:=Lib.hid hkp
     have HKO:=Lib.hid hko
     have HEQ:=Lib.hid heq
     have HZ:=Lib.hid hz
     have HKI2:=Lib.hid hKi
     clear hcall hkp hko heq hz hY2 hKi
     gi_wp2_with fail
     refine wpIn_wide.2 ?_
     refine wp_region_obl 12 (fun ix vals v w1 => match ix with | 0 => v = .int .i64 (t + k) | 1 => v = .pointer (some ⟨bs,1,none⟩) | 2 => v = .int .i64 tt | 3 => v = .bool true | 4 => v = .bool true | 5 => v = .agg P | 6 => v = .int .i64 (t + k) | 7 => v = .agg Y2 | 8 => v = .pointer (some ⟨gb,2,none⟩) | 9 => v = .agg Y | 10 => v = .bool z | _ => v = .bool z) (by kernel_rfl) (by kernel_rfl) ?_ ?_ ?_ ?_
     ·intro ix vals v w1 w2 hi hr hx; exact hr
     ·intro ix vals vals_ v w1 hi hv hr
      exact hr
     ·refine ⟨?_,?_,?_,?_,?_,?_,?_,?_,?_,?_,?_,?_,trivial⟩
      ·intro vals w1 hx hd ha
       clear hd ha
       simp only [Lf]
       go_wp2
       exact q_
      ·intro vals w1 hx hd ha
       clear hd ha
       simp only [Lf,dstAt,Act.put,FR_]
       go_wp2
       exact q_
      ·intro vals w1 hx hd ha
       have e1 : vals 1 = .pointer (some ⟨bs,1,none⟩):=hd 1 (by decide)
       clear hd ha
       simp only [Lf,dstAt,Act.put,FR_,e1]
       clear e1
       have c1:=ext_cell hx c1
       go_wp2
       exact q_
      ·intro vals w1 hx hd ha
       have e0 : vals 0 = .int .i64 (t + k):=hd 0 (by decide)
       have e2 : vals 2 = .int .i64 tt:=hd 2 (by decide)
       clear hd ha
       simp only [Lf,dstAt,Act.put,FR_,e0,e2]
       clear e0 e2
       go_wp2
       exact q_
      ·intro vals w1 hx hd ha
       have e3 : vals 3 = .bool true:=hd 3 (by decide)
       clear hd ha
       simp only [Lf,dstAt,Act.put,FR_,e3]
       clear e3
       go_wp2
       exact q_
      ·intro vals w1 hx hd ha
       have e4 : vals 4 = .bool true:=hd 4 (by decide)
       clear hd ha
       simp only [Lf,dstAt,Act.put,FR_,e4]
       clear e4
       refine wpList_load_stg rfl _ _ rfl bp 0 rfl P (pthCells x A un uc kn) HPP.out _ (HKP.out _ hx.undrew) Tryz.underlying117 rfl pth_size ?_
       go_wp2
       exact q_
      ·intro vals w1 hx hd ha
       have e4 : vals 4 = .bool true:=hd 4 (by decide)
       clear hd ha
       simp only [Lf,dstAt,Act.put,FR_,e4]
       clear e4
       go_wp2
       exact q_
      ·intro vals w1 hx hd ha
       have e4 : vals 4 = .bool true:=hd 4 (by decide)
       have e5 : vals 5 = .agg P:=hd 5 (by decide)
       have e6 : vals 6 = .int .i64 (t + k):=hd 6 (by decide)
       clear hd ha
       simp only [Lf,dstAt,Act.put,FR_,e4]
       simp only [e5]
       simp only [e6]
       clear e4 e5 e6
       go_wp2_with fail
       refine (HC.out _ hx.undrew).mono ?_
       rintro e w2 ⟨rfl,hb2⟩
       go_wp2
       exact ⟨rfl,hb2,rfl⟩
      ·intro vals w1 hx hd ha
       have e4 : vals 4 = .bool true:=hd 4 (by decide)
       clear hd ha
       simp only [Lf,dstAt,Act.put,FR_,e4]
       clear e4
       go_wp2
       exact q_
      ·intro vals w1 hx hd ha
       have e4 : vals 4 = .bool true:=hd 4 (by decide)
       have e8 : vals 8 = .pointer (some ⟨gb,2,none⟩):=hd 8 (by decide)
       clear hd ha
       simp only [Lf,dstAt,Act.put,FR_,e4]
       simp only [e8]
       clear e4 e8
       refine wpList_load_stg rfl _ _ rfl gb 2 rfl Y (orbCells (f t)) HYY.out _ (HKO.out _ hx.undrew) Tryz.underlying51 rfl orb_size ?_
       go_wp2
       exact q_
      ·intro vals w1 hx hd ha
       have e4 : vals 4 = .bool true:=hd 4 (by decide)
       have e7 : vals 7 = .agg Y2:=hd 7 (by decide)
       have e9 : vals 9 = .agg Y:=hd 9 (by decide)
       clear hd ha
       simp only [Lf,dstAt,Act.put,FR_,e4]
       simp only [e7]
       simp only [e9]
       clear e4 e7 e9
       have hq:=HEQ.out
       go_wp2
       exact q_
      ·intro vals w1 hx hd ha
       have e4 : vals 4 = .bool true:=hd 4 (by decide)
       have e10 : vals 10 = .bool z:=hd 10 (by decide)
       clear hd ha
       simp only [Lf,dstAt,Act.put,FR_,e4,e10]
       clear e4 e10
       go_wp2
       exact q_
     intro vals W5 hx5 hf
     have e11 : vals 11 = .bool z:=hf 11 (by omega)
     clear hf c1
     have hx5:=hx5.undrew
     refine tail0 (by kernel_rfl) ?_
     simp only [Lf,dstAt,Act.put,FR_]
     rw [e11]
     clear e11
     have HX5:=Lib.hid (Ext.trans HXI.out hx5)
     have HK5:=Lib.hid (HKI.out.ext hx5)
     clear hx5
     cases z
     ·have HE : Hid (k = (tt - t).toNat ∨ f (t + k) ≠ f t):=Lib.hid (.inr (by have:=HZ.out; simpa using this.symm))
      clear HZ HEQ HC HKP HKO
      have hk1 : 1 ≤ k:=by
       rcases Nat.eq_zero_or_pos k with h0 | h0
       ·rcases HE.out with h | h
        ·omega
        ·rw [h0,show t + ((0 : Nat) : Int) = t by omega] at h; exact absurd rfl h
       ·exact h0
      have hrun:=str_run f k (tt - t).toNat t hk1 (by omega) HI.out HE.out
      have hJ4 : J pre W5:=HJ.out _ _ _ none hJ2 (ext_grown HX5.out) (fun r e => by cases e)
      have hlen : pre.length < (strP f fr (tt - fr).toNat).length:=by rw [← HS.out,hrun]; simp
      have hbd : -1000000 ≤ t ∧ t ≤ 10000000 ∧ -1000000 ≤ t + k ∧ t + k ≤ 10000000:=by omega
      have hnew : ((pre ++ [(⟨⟨⟨t,t + k⟩,f t⟩,hbd⟩ : BStr)]).map (·.1)) ++ strP f (t + k) (tt - (t + k)).toNat = strP f fr (tt - fr).toNat:=by
       rw [← HS.out,hrun,List.map_append,List.append_assoc,List.map_singleton,List.singleton_append]
       congr 3
       omega
      have hpre : (pre ++ [(⟨⟨⟨t,t + k⟩,f t⟩,hbd⟩ : BStr)]).map (·.1) <+: strP f fr (tt - fr).toNat:=⟨_,hnew⟩
      have HN:=Lib.hid hnew
      have HPRE:=Lib.hid hpre
      have K5:=HK5.out.set_ 1 (.int .i64 (t + k))
      have f5 : W5.frozen? ⟨gb,1,none⟩ = false:=HK5.out.frozen 1
      have hX2 : X.setIfInBounds 1 (.int .i64 (t + k)) = (strCells ⟨⟨t,t + k⟩,f t⟩).toArray:=by rw [← HXX.out]; rfl
      rw [hX2] at K5
      obtain ⟨X2,hX2'⟩ : ∃ X2,(strCells ⟨⟨t,t + k⟩,f t⟩).toArray = X2:=⟨_,rfl⟩
      have HX2':=Lib.hid hX2'
      have hx6 : Ext W2 (W5.setCell ⟨gb,1,none⟩ (.int .i64 (t + k))):=HX5.out.setCell (p:=⟨gb,1,none⟩) (by have:=HG.out; exact Nat.le_of_eq this.symm) _
      have hJ6 : J pre (W5.setCell ⟨gb,1,none⟩ (.int .i64 (t + k))):=HJ.out _ _ _ none hJ2 (ext_grown hx6) (fun r e => by cases e)
      have c15 : ∃ u,W5.cell? ⟨gb,1,none⟩ = some u:=⟨X[1]'(by rw [HXS.out]; decide),by rw [HK5.out.cell]; exact Array.getElem?_eq_getElem _⟩
      obtain ⟨u15,c15⟩:=c15
      rw [hX2'] at K5
      have HK6:=Lib.hid K5
      have HX6:=Lib.hid hx6
      have HJ6:=Lib.hid hJ6
      clear hrun hnew hpre hX2 hX2' K5 hx6 hJ6 hJ4
      obtain ⟨fn,tmps,assign,body,hy,hR⟩:=HY.out pre ⟨⟨⟨t,t + k⟩,f t⟩,hbd⟩ _ HJ6.out hlen
      dsimp only [encS] at hy
      rw [HX2'.out] at hy
      gi_wp2_with (refine wpListIn_load_st rfl _ _ rfl gb 0 rfl X2 (strCells ⟨⟨t,t + k⟩,f t⟩) HX2'.out _ (Blk.range HK6.out (strCells ⟨⟨t,t + k⟩,f t⟩) (by rw [← HX2'.out])) Tryz.underlying96 rfl str_size ?_)
      refine ⟨(fun h => by cases h),hR.mono ?_⟩
      rintro e W7 (⟨rfl,hJ7,hk7⟩ | ⟨rfl,hJx7⟩)
      ·have hK6 : KpB ex B1 B0 w W7:=(hK2.trans (KpB.ext HX6.out hB1 hB2')).trans hk7
       have hsz7 : W.heap.size ≤ W7.heap.size:=Nat.le_trans hsz2 (Nat.le_trans HX6.out.size hk7.low.size)
       clear hy hR hk7
       gi_wp2
       go_roundw
       case rel => exact ⟨t + k,_,rfl,by omega,by omega,HN,hJ7,hK6,hsz7⟩
       case measure => simp [intOf]; omega
      ·gi_wp2
       refine bodyPost_ret (results_none rfl _ _ _) rfl ?_
       exact ⟨⟨_,rfl⟩,.inr ⟨_,HPRE.out,hJx7⟩⟩
     ·have HI2 : Hid (∀ i : Nat,i < k + 1 → f (t + i) = f t):=Lib.hid (fun i hi => by
       rcases Nat.lt_or_ge i k with h | h
       ·exact HI.out i h
       ·rw [show i = k by omega]
        have:=HZ.out
        simpa using this.symm)
      clear HZ HEQ HC HKP HKO
      have hw1 : IntKind.i64.wrap (t + k + 1) = t + k + 1:=IntWalk.i64_in _ (by omega)
      gi_wp2
      go_roundw
      case rel => exact ⟨k + 1,by rw [show t + ((k + 1 : Nat) : Int) = t + k + 1 by omega],by omega,HI2,HK5,HX5⟩
      case measure => simp [intOf]; omega
    ·have HE : Hid (k = (tt - t).toNat ∨ f (t + k) ≠ f t):=Lib.hid (.inl (by omega))
     have hdk : decide (t + k < tt) = false:=by simpa using hlk
     gi_wp2_with fail
     refine wpIn_wide.2 ?_
     refine wp_region_obl 12 (fun ix vals v w1 => match ix with | 0 => v = .int .i64 (t + k) | 1 => v = .pointer (some ⟨bs,1,none⟩) | 2 => v = .int .i64 tt | 3 => v = .bool false | 4 => v = .bool false | 5 => v = undef | 6 => v = undef | 7 => v = undef | 8 => v = undef | 9 => v = undef | 10 => v = undef | _ => v = .bool false) (by kernel_rfl) (by kernel_rfl) ?_ ?_ ?_ ?_
     ·intro ix vals v w1 w2 hi hr hx; exact hr
     ·intro ix vals vals_ v w1 hi hv hr
      exact hr
     ·refine ⟨?_,?_,?_,?_,?_,?_,?_,?_,?_,?_,?_,?_,trivial⟩
      ·intro vals w1 hx hd ha
       clear hd ha
       simp only [Lf]
       go_wp2
       exact q_
      ·intro vals w1 hx hd ha
       clear hd ha
       simp only [Lf,dstAt,Act.put,FR_]
       go_wp2
       exact q_
      ·intro vals w1 hx hd ha
       have e1 : vals 1 = .pointer (some ⟨bs,1,none⟩):=hd 1 (by decide)
       clear hd ha
       simp only [Lf,dstAt,Act.put,FR_,e1]
       clear e1
       have c1:=ext_cell hx c1
       go_wp2
       exact q_
      ·intro vals w1 hx hd ha
       have e0 : vals 0 = .int .i64 (t + k):=hd 0 (by decide)
       have e2 : vals 2 = .int .i64 tt:=hd 2 (by decide)
       clear hd ha
       simp only [Lf,dstAt,Act.put,FR_,e0,e2]
       clear e0 e2
       go_wp2
       exact q_
      ·intro vals w1 hx hd ha
       have e3 : vals 3 = .bool false:=hd 3 (by decide)
       clear hd ha
       simp only [Lf,dstAt,Act.put,FR_,e3]
       clear e3
       go_wp2
       exact q_
      ·intro vals w1 hx hd ha
       have e4 : vals 4 = .bool false:=hd 4 (by decide)
       clear hd ha
       simp only [Lf,dstAt,Act.put,FR_,e4]
       clear e4
       go_wp2
       exact q_
      ·intro vals w1 hx hd ha
       have e4 : vals 4 = .bool false:=hd 4 (by decide)
       clear hd ha
       simp only [Lf,dstAt,Act.put,FR_,e4]
       clear e4
       go_wp2
       exact q_
      ·intro vals w1 hx hd ha
       have e4 : vals 4 = .bool false:=hd 4 (by decide)
       have e5 : vals 5 = undef:=hd 5 (by decide)
       have e6 : vals 6 = undef:=hd 6 (by decide)
       clear hd ha
       simp only [Lf,dstAt,Act.put,FR_,e4,e5,e6]
       clear e4 e5 e6
       go_wp2
       exact q_
      ·intro vals w1 hx hd ha
       have e4 : vals 4 = .bool false:=hd 4 (by decide)
       clear hd ha
       simp only [Lf,dstAt,Act.put,FR_,e4]
       clear e4
       go_wp2
       exact q_
      ·intro vals w1 hx hd ha
       have e4 : vals 4 = .bool false:=hd 4 (by decide)
       have e8 : vals 8 = undef:=hd 8 (by decide)
       clear hd ha
       simp only [Lf,dstAt,Act.put,FR_,e4,e8]
       clear e4 e8
       go_wp2
       exact q_
      ·intro vals w1 hx hd ha
       have e4 : vals 4 = .bool false:=hd 4 (by decide)
       have e7 : vals 7 = undef:=hd 7 (by decide)
       have e9 : vals 9 = undef:=hd 9 (by decide)
       clear hd ha
       simp only [Lf,dstAt,Act.put,FR_,e4,e7,e9]
       clear e4 e7 e9
       go_wp2
       exact q_
      ·intro vals w1 hx hd ha
       have e4 : vals 4 = .bool false:=hd 4 (by decide)
       have e10 : vals 10 = undef:=hd 10 (by decide)
       clear hd ha
       simp only [Lf,dstAt,Act.put,FR_,e4,e10]
       clear e4 e10
       go_wp2
       exact q_
     intro vals W5 hx5 hf
     have e11 : vals 11 = .bool false:=hf 11 (by omega)
     clear hf c1
     have hx5:=hx5.undrew
     refine tail0 (by kernel_rfl) ?_
     simp only [Lf,dstAt,Act.put,FR_]
     rw [e11]
     clear e11
     have HX5:=Lib.hid (Ext.trans HXI.out hx5)
     have HK5:=Lib.hid (HKI.out.ext hx5)
     clear hx5
     have hk1 : 1 ≤ k:=by
      rcases Nat.eq_zero_or_pos k with h0 | h0
      ·rcases HE.out with h | h
       ·omega
       ·rw [h0,show t + ((0 : Nat) : Int) = t by omega] at h; exact absurd rfl h
      ·exact h0
     have hrun:=str_run f k (tt - t).toNat t hk1 (by omega) HI.out HE.out
     have hJ4 : J pre W5:=HJ.out _ _ _ none hJ2 (ext_grown HX5.out) (fun r e => by cases e)
     have hlen : pre.length < (strP f fr (tt - fr).toNat).length:=by rw [← HS.out,hrun]; simp
     have hbd : -1000000 ≤ t ∧ t ≤ 10000000 ∧ -1000000 ≤ t + k ∧ t + k ≤ 10000000:=by omega
     have hnew : ((pre ++ [(⟨⟨⟨t,t + k⟩,f t⟩,hbd⟩ : BStr)]).map (·.1)) ++ strP f (t + k) (tt - (t + k)).toNat = strP f fr (tt - fr).toNat:=by
      rw [← HS.out,hrun,List.map_append,List.append_assoc,List.map_singleton,List.singleton_append]
      congr 3
      omega
     have hpre : (pre ++ [(⟨⟨⟨t,t + k⟩,f t⟩,hbd⟩ : BStr)]).map (·.1) <+: strP f fr (tt - fr).toNat:=⟨_,hnew⟩
     have HN:=Lib.hid hnew
     have HPRE:=Lib.hid hpre
     have K5:=HK5.out.set_ 1 (.int .i64 (t + k))
     have f5 : W5.frozen? ⟨gb,1,none⟩ = false:=HK5.out.frozen 1
     have hX2 : X.setIfInBounds 1 (.int .i64 (t + k)) = (strCells ⟨⟨t,t + k⟩,f t⟩).toArray:=by rw [← HXX.out]; rfl
     rw [hX2] at K5
     obtain ⟨X2,hX2'⟩ : ∃ X2,(strCells ⟨⟨t,t + k⟩,f t⟩).toArray = X2:=⟨_,rfl⟩
     have HX2':=Lib.hid hX2'
     have hx6 : Ext W2 (W5.setCell ⟨gb,1,none⟩ (.int .i64 (t + k))):=HX5.out.setCell (p:=⟨gb,1,none⟩) (by have:=HG.out; exact Nat.le_of_eq this.symm) _
     have hJ6 : J pre (W5.setCell ⟨gb,1,none⟩ (.int .i64 (t + k))):=HJ.out _ _ _ none hJ2 (ext_grown hx6) (fun r e => by cases e)
     have c15 : ∃ u,W5.cell? ⟨gb,1,none⟩ = some u:=⟨X[1]'(by rw [HXS.out]; decide),by rw [HK5.out.cell]; exact Array.getElem?_eq_getElem _⟩
     obtain ⟨u15,c15⟩:=c15
     rw [hX2'] at K5
     have HK6:=Lib.hid K5
     have HX6:=Lib.hid hx6
     have HJ6:=Lib.hid hJ6
     clear hrun hnew hpre hX2 hX2' K5 hx6 hJ6 hJ4
     obtain ⟨fn,tmps,assign,body,hy,hR⟩:=HY.out pre ⟨⟨⟨t,t + k⟩,f t⟩,hbd⟩ _ HJ6.out hlen
     dsimp only [encS] at hy
     rw [HX2'.out] at hy
     gi_wp2_with (refine wpListIn_load_st rfl _ _ rfl gb 0 rfl X2 (strCells ⟨⟨t,t + k⟩,f t⟩) HX2'.out _ (Blk.range HK6.out (strCells ⟨⟨t,t + k⟩,f t⟩) (by rw [← HX2'.out])) Tryz.underlying96 rfl str_size ?_)
     refine ⟨(fun h => by cases h),hR.mono ?_⟩
     rintro e W7 (⟨rfl,hJ7,hk7⟩ | ⟨rfl,hJx7⟩)
     ·have hK6 : KpB ex B1 B0 w W7:=(hK2.trans (KpB.ext HX6.out hB1 hB2')).trans hk7
      have hsz7 : W.heap.size ≤ W7.heap.size:=Nat.le_trans hsz2 (Nat.le_trans HX6.out.size hk7.low.size)
      clear hy hR hk7
      gi_wp2
      go_roundw
      case rel => exact ⟨t + k,_,rfl,by omega,by omega,HN,hJ7,hK6,hsz7⟩
      case measure => simp [intOf]; omega
     ·gi_wp2
      refine bodyPost_ret (results_none rfl _ _ _) rfl ?_
      exact ⟨⟨_,rfl⟩,.inr ⟨_,HPRE.out,hJx7⟩⟩
  ·have hend : pre.map (·.1) = strP f fr (tt - fr).toNat:=by
    rw [← HS.out,show (tt - t).toNat = 0 by omega]
    simp [strP]
   have HE:=Lib.hid hend
   clear hend
   gi_wp2
   go_end0
   exact ⟨⟨_,rfl⟩,.inl ⟨pre,HE.out,hJp⟩⟩
end Go.Proofs.YtjidhhfabfnhnaaGreat
namespace Go.Proofs.YtjidhhfabfnhnaaGreat
open Go.RowKit Go.Shelf
attribute [local go_sem] Oper.semAt_some
theorem wp_range_str (ex : Nat → Prop) (B1 bs bp : Nat) (x0 : St) (l : List Upd) (A : Option Addr) (un uc : Nat) (kn fr tt : Int) (n : Nat) (hn : 1 ≤ n) {w : World} (hB1 : B1 ≤ w.heap.size)
  (hU : RA updCells 10 w B1 A un uc l) (ks : Blk w bs 32 #[.int .i64 fr,.int .i64 tt]) (kp : Blk w bp 117 (pthCells x0 A un uc kn).toArray) (hs : ¬ ex bs) (hp : ¬ ex bp)
  (b1 : -1000000 ≤ fr) (b2 : fr ≤ tt) (b3 : tt ≤ 10000000)
  {op : Operand} {p1 : Nat} {assign body : Code} {Q : Exit → Act → World → Prop} {a : Act} (hg : a.eval op = .func (.func 105) #[] #[.pointer (some ⟨bs,0,none⟩),.pointer (some ⟨bp,0,none⟩)])
  (I : List BStr → World → Prop) (Ix : Code → List BStr → World → Prop) (hI : OwnFrom w.heap.size I) (hIx : ∀ c,OwnFrom w.heap.size (Ix c)) (hIs : ∀ pre W,I pre W → w.heap.size ≤ W.heap.size) (h0 : I [] w)
  (fr_ : Array Value → BStr → Nat → Array Value)
  (hassign : ∀ (ly : Nat) (x : BStr) (W : World) (K : Act → World → Prop),K { tmps:=fr_ a.tmps x W.heap.size,defers:=[] } (W.alloc (.cells (strCells x.1).toArray 96)) →
   assign.wpIn (Fence.wide.inRound ly) (n - 1 - 1) Tryz.prog (Exit.then K (fun _ _ _ => False)) { tmps:=a.tmps.setIfInBounds p1 (.agg (strCells x.1).toArray),defers:=[] } W)
  (hbody : ∀ (ly : Nat) (pre : List BStr) (x : BStr) (Bx : Nat) (W : World),I pre W → w.heap.size ≤ Bx → Blk W Bx 96 (strCells x.1).toArray → pre.length < (strP (orbE x0 l kn) fr (tt - fr).toNat).length →
   body.wpIn (Fence.wide.inRound ly) (n - 1 - 1) Tryz.prog (ownPostG w.heap.size (KpB ex B1 w.heap.size) I Ix (pre ++ [x]) W) { tmps:=fr_ a.tmps x Bx,defers:=[] } W)
  (hdone : ∀ (D : Nat) (xs : List BStr) (W : World),w.heap.size ≤ D → xs.map (·.1) = strP (orbE x0 l kn) fr (tt - fr).toNat → I xs W → W.heap[D]? = some (.deferred (some [])) → Q .normal { a with defers:={ target:=.collected D,args:=#[] } :: a.defers } W)
  (hstop : ∀ (D : Nat) (c : Code) (pre : List BStr) (W : World),w.heap.size ≤ D → pre.map (·.1) <+: strP (orbE x0 l kn) fr (tt - fr).toNat → Ix c pre W → W.heap[D]? = some (.deferred (some [])) → c.wpIn Fence.wide n Tryz.prog Q { a with defers:={ target:=.collected D,args:=#[] } :: a.defers } W) :
  (Code.rangeFunc op #[p1] assign body).wpIn Fence.wide n Tryz.prog Q a w:=by
 refine wp_range_seqG hn hg (enters_of Tryz.func105 (by kernel_rfl) rfl) (str1_in ex B1 w.heap.size bs bp x0 l A un uc kn fr tt (fun _ _ => True) (n - 1) w hB1 (Nat.le_refl _) hU ks kp ⟨hs,ks.lt⟩ ⟨hp,kp.lt⟩ b1 b2 b3)
  (fun h k => h.trans k) (fun W l o o' hl ho _ => putObj_kept hB1 W l o o' hl ho) (fun _ => rfl) I Ix (fun _ _ _ => trivial) hI hIx h0
  (fun x a' W => ∃ Bx,w.heap.size ≤ Bx ∧ Blk W Bx 96 (strCells x.1).toArray ∧ a' = { tmps:=fr_ a.tmps x Bx,defers:=[] }) ?_ ?_ ?_ hdone hstop
 ·rintro x a' _ X Y row ⟨Bx,h1,h2,h3⟩ hgr hr
  exact ⟨Bx,h1,blk_kept h2 hgr hr,h3⟩
 ·intro ly pre x W K hIp hK
  have hz : ((#[p1].zip (encS x)).foldl (fun t (p,v) => t.setIfInBounds p v) a.tmps) = a.tmps.setIfInBounds p1 (.agg (strCells x.1).toArray):=by simp [encS]
  rw [hz]
  have hs:=hIs _ _ hIp
  exact hassign ly x W _ (hK _ _ ((KeepsOthers.alloc W _).from _) (KpB.ext (bl_alloc (Below.refl _ _) _) hB1 hs) (hI.alloc _ hIp) ⟨W.heap.size,hs,Blk.new _ _ _,rfl⟩)
 ·rintro ly pre x a' W hIp ⟨Bx,h1,h2,rfl⟩ hlen
  exact hbody ly pre x Bx W hIp h1 h2 hlen
end Go.Proofs.YtjidhhfabfnhnaaGreat
namespace Go.Proofs.YtjidhhfabfnhnaaGreat
open Go.RowKit Go.Shelf
attribute [local go_sem] Oper.semAt_some
theorem run_buildOne {P : Program} (w : World) (t e : TypeId) (X : Array Value) (hu : P.underlying t = some (.slice e)) (s : Nat) (hi : (P.info? e).map (fun i => (i.zero.map (fun z => z.cells.size),i.size)) = some (some s,s)) (hs : X.size = s) (h0 : 0 < s) (hsm : s ≤ 2 ^ 24) :
  (Instr.buildSlice t 1 #[(0,.agg X)]).run P w = .ok (.slice (some ⟨w.heap.size,0,none⟩) 1 1) (w.alloc (.cells X e)):=by
 cases hie : P.info? e with
 | none => simp [hie] at hi
 | some ie =>
  cases hz : ie.zero with
  | none => simp [hie,hz] at hi
  | some z =>
   simp only [hie,hz,Option.map_some,Option.some.injEq,Prod.mk.injEq] at hi
   obtain ⟨hzs,his⟩:=hi
   refine run_buildSlice w t e 1 _ X ie z hu hie hz (by omega) (by omega) ?_
   have hf:=Great.fill_whole (s:=s) h0 [.agg X] ((Array.range (1 * ie.size)).map (z.cells[· % z.cells.size]!)) (by intro v hv; obtain rfl:=List.mem_singleton.1 hv; exact hs) (by simp [his])
   simp [his] at hf ⊢
   exact hf
theorem wpListIn_buildOne {F : Fence} {n : Nat} {P : Program} {ops : Array Oper} {rest : List Oper} {o : Oper} {a : Act} {w : World} {Q : Exit → Act → World → Prop} (hg : o.guard = none) (t e : TypeId) (x : Operand) (ho : o.op = .buildSlice t 1 #[(0,x)])
  (X : Array Value) (hx : a.eval x = .agg X) (hu : P.underlying t = some (.slice e)) (s : Nat) (hi : (P.info? e).map (fun i => (i.zero.map (fun z => z.cells.size),i.size)) = some (some s,s)) (hs : X.size = s) (h0 : 0 < s) (hsm : s ≤ 2 ^ 24)
  (h : wpListIn F n P ops Q rest (a.put o.dst (.slice (some ⟨w.heap.size,0,none⟩) 1 1)) (w.alloc (.cells X e))) : wpListIn F n P ops Q (o :: rest) a w:=by
 have e:=run_buildOne (P:=P) w t e X hu s hi hs h0 hsm
 refine wpListIn_plain hg fun K hK' => ?_
 unfold Oper.wpIn
 refine ⟨?_,?_⟩
 ·simp [Oper.about,ho]
 ·rw [Oper.semAt_plain F _ _ (by rw [ho]; intro c hc'; cases hc')]
  simp [execOp,ho,hx,e,Result.andThen]
  exact hK' _ _ h
theorem info_str : (Tryz.prog.info? 96).map (fun i => (i.zero,i.size,i.bytes)) = some (some (.agg #[.int .i64 0,.int .i64 0,.int .i64 0,.int .i64 0,.int .i64 0,.int .i64 0,.int .i64 0,.int .i64 0,.int .i64 0]),9,72):=by kernel_rfl
theorem info_str2 : (Tryz.prog.info? 96).map (fun i => (i.zero.map (fun z => z.cells.size),i.size)) = some (some 9,9):=by kernel_rfl
theorem cells_one (s : Str) : ∀ u ∈ strCells s,u.oneCell' = true:=by simp [strCells,Value.oneCell']
def StrRet (r : Option (List Str)) (w : World) (e : Ending) (w' : World) : Prop:=match r with
 | none => e = .returned (.tuple #[.slice none 0 0,.int .i64 360]) ∧ Ext w w'
 | some l => (∃ v,e = .returned (.tuple #[v,.int .i64 0]) ∧ w'.ownsRow w.heap.size 96 9 v l.length (l.flatMap strCells)) ∧ Ext w w'
structure StI (w : World) (B0 gu : Nat) (pre : List BStr) (W : World) : Prop where
 row : ∃ v,Blk W gu 83 #[v] ∧ W.ownsRow B0 96 9 v pre.length ((pre.map (·.1)).flatMap strCells)
 below : Ext w W
 size : B0 ≤ W.heap.size
theorem stI_own {w : World} {B0 gu : Nat} (h : w.heap.size ≤ B0) : OwnFrom B0 (StI w B0 gu):=by
 rintro pre X Y row ⟨⟨v,k1,k2⟩,hb,hz⟩ hgr hr
 exact ⟨⟨v,blk_kept k1 hgr hr,own_kept k2 hgr hr⟩,hb.grown hgr hb.size (fun k e => Nat.le_trans h (hr k e).1),Nat.le_trans hz hgr.size⟩
set_option maxRecDepth 100000 in
set_option maxHeartbeats 4000000 in
theorem Stretches_in (x : St) (l : List Upd) (A : Option Addr) (un uc : Nat) (a b kn : Int) (w : World) (h : RA updCells 10 w w.heap.size A un uc l) (hun : un ≤ 2000) :
  CallsIn Fence.wide 10 Tryz.prog 27 #[.agg (satCells x).toArray,.slice A un uc,.agg #[.int .i64 a,.int .i64 b],.int .i64 kn] w (StrRet (stretchesE x l ⟨a,b⟩ kn) w):=by
 have hval:=fun (W : World) (hx : Ext w W) => isValid_any x l A un uc W (ra_ext h hx) hun
 have hspn:=eSpan_any a b
 have hbu:=pth_built x A un uc kn
 obtain ⟨P,hP⟩ : ∃ P,(satCells x).toArray = P:=⟨_,rfl⟩
 obtain ⟨Z,hZ⟩ : ∃ Z,(pthCells x A un uc kn).toArray = Z:=⟨_,rfl⟩
 rw [hP] at hval hbu
 rw [hZ] at hbu
 rw [hP]
 obtain ⟨R,hR⟩ : ∃ R,R = stretchesE x l ⟨a,b⟩ kn:=⟨_,rfl⟩
 rw [← hR]
 unfold stretchesE strE at hR
 have hsp : spanE ⟨a,b⟩ = true → 0 ≤ a ∧ a < b ∧ b ≤ 1000000 ∧ b - a ≤ 1440:=fun h => by simpa [spanE] using h
 generalize spanE ⟨a,b⟩ = q1 at hspn hR hsp
 generalize validS x l = q2 at hval hR
 have HR:=Lib.hid hR
 have HVAL:=Lib.hid hval
 have HSPN:=Lib.hid hspn
 have HSP:=Lib.hid hsp
 have HBU:=Lib.hid hbu
 have HPP:=Lib.hid hP
 have HZZ:=Lib.hid hZ
 have HRA:=Lib.hid h
 clear hR hval hspn hsp hbu hP hZ h
 refine callsIn_of_wp_marks Tryz.func27 rfl trivial ?_ rfl
 simp only [Tryz.ntmps27,List.size_toArray,List.length_cons,List.length_nil,Nat.reduceAdd,Nat.reduceSub,Array.replicate_succ,Array.replicate_zero,List.push_toArray,List.append_toArray,List.nil_append,List.cons_append]
 refine wpIn_wide.2 ?_
 have hxa : Ext w (w.alloc (.cells P 53)):=bl_alloc (Below.refl _ _) _
 have hxb : Ext (w.alloc (.cells P 53)) ((w.alloc (.cells P 53)).alloc (.cells #[.int .i64 a,.int .i64 b] 32)):=bl_alloc (Below.refl _ _) _
 have hxc : Ext ((w.alloc (.cells P 53)).alloc (.cells #[.int .i64 a,.int .i64 b] 32)) (((w.alloc (.cells P 53)).alloc (.cells #[.int .i64 a,.int .i64 b] 32)).alloc (.cells #[.slice none 0 0] 83)):=bl_alloc (Below.refl _ _) _
 have J4:=((Blk.new w 53 P).ext hxb).ext hxc
 have J6:=(Blk.new (w.alloc (.cells P 53)) 32 #[.int .i64 a,.int .i64 b]).ext hxc
 have J8:=Blk.new ((w.alloc (.cells P 53)).alloc (.cells #[.int .i64 a,.int .i64 b] 32)) 83 #[.slice none 0 0]
 have hx1:=Ext.trans hxa (Ext.trans hxb hxc)
 simp only [World.size_alloc] at J6 J8
 have hg8 : w.heap.size ≤ w.heap.size + 1 + 1:=by omega
 clear hxa hxb hxc
 go_upto_region 1 with (fail)
 generalize ((w.alloc (.cells P 53)).alloc (.cells #[.int .i64 a,.int .i64 b] 32)).alloc (.cells #[.slice none 0 0] 83) = W1 at J4 J6 J8 hx1 ⊢
 generalize w.heap.size + 1 + 1 = g8 at J8 hg8 ⊢
 generalize w.heap.size + 1 = g6 at J6 ⊢
 obtain ⟨g4,hg4⟩ : ∃ g,g = w.heap.size:=⟨_,rfl⟩
 rw [← hg4] at J4 ⊢
 have HG8:=Lib.hid hg8
 clear hg4 hg8
 have s0 : W1.cell? ⟨g6,0,none⟩ = some (.int .i64 a):=J6.cell 0
 have s1 : W1.cell? ⟨g6,1,none⟩ = some (.int .i64 b):=J6.cell 1
 go_wp2_with fail
 refine (HSPN.out _).mono ?_
 rintro e W2 ⟨rfl,hy⟩
 have hx2:=Ext.trans hx1 hy
 have J4:=J4.ext hy
 have J6:=J6.ext hy
 have J8:=J8.ext hy
 clear s0 s1 hx1 hy
 cases q1
 ·obtain rfl : R = none:=by rw [HR.out]; simp
  have u1 : W2.frozen? ⟨g8,0,none⟩ = false:=J8.frozen 0
  have u0 : W2.cell? ⟨g8,0,none⟩ = some (.slice none 0 0):=J8.cell 0
  have u2 : (W2.setCell ⟨g8,0,none⟩ (.slice none 0 0)).cell? ⟨g8,0,none⟩ = some (.slice none 0 0):=(J8.set_ 0 _).cell 0
  have HX:=Lib.hid (hx2.setCell (p:=⟨g8,0,none⟩) HG8.out (.slice none 0 0))
  clear J4 J6 J8 hx2
  go_wp2_with fail
  exact ⟨.tuple #[.slice none 0 0,.int .i64 360],by simp [results,Tryz.results27,go_sem,u2],rfl,HX.out⟩
 ·have HJ4:=Lib.hid J4
  go_wp2_with (refine wpList_load_stg rfl _ _ rfl g4 0 rfl P (satCells x) HPP.out _ (Blk.range HJ4.out (satCells x) (by rw [← HPP.out])) Tryz.underlying53 rfl sat_size ?_)
  refine (HVAL.out _ hx2).mono ?_
  rintro e W3 ⟨rfl,hy⟩
  have hx3:=Ext.trans hx2 hy
  have J4:=J4.ext hy
  have J6:=J6.ext hy
  have J8:=J8.ext hy
  clear hx2 hy HJ4
  cases q2
  ·obtain rfl : R = none:=by rw [HR.out]; simp
   have u1 : W3.frozen? ⟨g8,0,none⟩ = false:=J8.frozen 0
   have u0 : W3.cell? ⟨g8,0,none⟩ = some (.slice none 0 0):=J8.cell 0
   have u2 : (W3.setCell ⟨g8,0,none⟩ (.slice none 0 0)).cell? ⟨g8,0,none⟩ = some (.slice none 0 0):=(J8.set_ 0 _).cell 0
   have HX:=Lib.hid (hx3.setCell (p:=⟨g8,0,none⟩) HG8.out (.slice none 0 0))
   clear J4 J6 J8 hx3
   go_wp2_with fail
   exact ⟨.tuple #[.slice none 0 0,.int .i64 360],by simp [results,Tryz.results27,go_sem,u2],rfl,HX.out⟩
  ·have hRs : R = some (strP (orbE x l kn) a (b - a).toNat):=by rw [HR.out]; simp
   have HRS:=Lib.hid hRs
   obtain ⟨h1,h2,h3,h4⟩ : 0 ≤ a ∧ a < b ∧ b ≤ 1000000 ∧ b - a ≤ 1440:=by first | exact HSP.out rfl | exact HSP.out trivial
   have s0 : W3.cell? ⟨g6,0,none⟩ = some (.int .i64 a):=J6.cell 0
   have s1 : W3.cell? ⟨g6,1,none⟩ = some (.int .i64 b):=J6.cell 1
   have HJ4:=Lib.hid J4
   clear hRs HR HVAL HSPN HSP
   go_wp2_with (first | (refine wpList_load_st rfl _ _ rfl g4 0 rfl P (satCells x) HPP.out _ (Blk.range HJ4.out (satCells x) (by rw [← HPP.out])) Tryz.underlying53 rfl sat_size ?_) | (refine wpList_build3 rfl _ _ _ _ rfl Z rfl rfl rfl HBU.out ?_))
   refine (strs_fn Z a b _).mono ?_
   rintro e W4 ⟨rfl,hW4⟩
   have hy : Ext W3 W4:=by subst hW4; exact bl_alloc (bl_alloc (Below.refl _ _) _) _
   have kp : Blk W4 W3.heap.size 117 Z:=by subst hW4; exact (Blk.new _ _ _).alloc _
   have ks : Blk W4 (W3.heap.size + 1) 32 #[.int .i64 a,.int .i64 b]:=by subst hW4; exact Blk.new_at _ _ _ (by simp)
   have hl8:=J8.lt
   have hx4:=Ext.trans hx3 hy
   have J8:=J8.ext hy
   rw [← HZZ.out] at kp
   have hws:=Below.size hx4
   clear hW4 hy J4 J6 HJ4 s0 s1 hx3 HBU
   go_wp2_with fail
   refine wpIn_wide.1 (wp_range_str (fun k => k = g8) w.heap.size (W3.heap.size + 1) W3.heap.size x l A un uc kn a b 10 (by omega) hws (HRA.out.below hx4) ks kp (by omega) (by omega) (by omega) (by omega) (by omega) rfl (StI w W4.heap.size g8) (fun _ _ _ => False) (stI_own hws) (fun _ _ _ _ _ h _ _ => h) (fun _ _ h => h.size) ⟨⟨_,J8,World.ownsRow_nil _ _ _ _⟩,hx4,Nat.le_refl _⟩
    (fun t x Bx => (t.setIfInBounds 26 (.agg (strCells x.1).toArray)).setIfInBounds 10 (.pointer (some ⟨Bx,0,none⟩))) ?hassign ?hbody ?hdone (fun _ _ _ _ _ _ h _ => h.elim))
   case hassign =>
    intro ly s W K hK
    obtain ⟨X,hX⟩ : ∃ X,(strCells s.1).toArray = X:=⟨_,rfl⟩
    obtain ⟨hXs,hX1⟩:=str_lit _ X hX
    rw [hX] at hK ⊢
    have HXS:=Lib.hid hXs
    have HX1:=Lib.hid hX1
    clear hX hXs hX1
    simp only [List.setIfInBounds_toArray,List.set_cons_zero,List.set_cons_succ] at hK ⊢
    gi_wp2_with (refine wpListIn_store_new rfl 96 _ _ rfl _ X rfl rfl (by rw [HXS.out]; exact str_size) (by rw [HXS.out]; rfl) HX1.out ?_)
    exact hK
   case hbody =>
    intro ly pre s Bx W hI hBx KX hlen
    simp only [List.setIfInBounds_toArray,List.set_cons_zero,List.set_cons_succ]
    obtain ⟨⟨v,k1,k2⟩,hb,hz⟩:=hI
    obtain ⟨A',c',hv,_,_⟩:=own_slice k2
    subst hv
    have hlen2:=str_len (orbE x l kn) (b - a).toNat a
    have hlen3 : pre.length < 1440:=by omega
    obtain ⟨X,hX⟩ : ∃ X,(strCells s.1).toArray = X:=⟨_,rfl⟩
    obtain ⟨hXs,hX1⟩:=str_lit _ X hX
    have HXX:=Lib.hid hX
    have HXS:=Lib.hid hXs
    rw [hX] at KX ⊢
    obtain ⟨i0,hi0,hz0,hz1,hz2⟩:=info_parts info_str
    have hx1 : Ext W (W.alloc (.cells X 96)):=bl_alloc (Below.refl _ _) _
    have KN:=Blk.new W 96 X
    obtain ⟨v2,W2,hr,hrow2,hg2,-⟩:=run_append_own (P:=Tryz.prog) (W.alloc (.cells X 96)) W4.heap.size 83 83 96 i0 _ 9 72 Tryz.underlying83 hi0 hz0 hz1 hz2 rfl (by omega) _ pre.length ((pre.map (·.1)).flatMap strCells) (own_ext k2 hx1) ⟨W.heap.size,0,none⟩ 1 1 (strCells s.1) (by rfl)
     (by intro j u hj; rw [Addr.add_lit,Nat.zero_add]; rw [KN.cell,← HXX.out]; simpa using hj) (cells_one s.1) (by unfold maxLen; omega) (by omega) (by rw [World.size_alloc]; omega)
    obtain ⟨A2,c2,hv,_,_⟩:=own_slice hrow2
    subst hv
    have hg8W4 : g8 < W4.heap.size:=J8.lt
    have k1':=(k1.ext hx1).grown hg2 (fun e => by have:=(World.ownsRow.lt k2 g8 e.symm).1; omega)
    have u0 : W.cell? ⟨g8,0,none⟩ = some (.slice A' pre.length c'):=k1.cell 0
    have u1 : W2.frozen? ⟨g8,0,none⟩ = false:=k1'.frozen 0
    have u2 : W2.cell? ⟨g8,0,none⟩ = some (.slice A' pre.length c'):=k1'.cell 0
    have HK : Hid (KeepsOthers W (W2.setCell ⟨g8,0,none⟩ (.slice A2 (pre.length + 1) c2))):=Lib.hid (((KeepsOthers.alloc W _).trans (keeps_own (own_ext k2 hx1) hg2)).trans (KeepsOthers.setCell _ _ _))
    have hws2 : w.heap.size ≤ W4.heap.size:=hws
    have HP : Hid (KpB (fun k => k = g8) w.heap.size W4.heap.size W (W2.setCell ⟨g8,0,none⟩ (.slice A2 (pre.length + 1) c2))):=Lib.hid (((KpB.ext hx1 hws2 hz).trans (KpB.step hg2 hws2 (by rw [World.size_alloc]; omega) (fun r e => .inr (World.ownsRow.lt k2 r e).1))).trans (KpB.step (grownBy_setCell' W2 g8 _) hws2 (Nat.le_trans hz (Nat.le_trans hx1.size hg2.size)) (fun r e => by cases e; exact .inl ⟨rfl,HG8.out⟩)))
    have HI : Hid (StI w W4.heap.size g8 (pre ++ [s]) (W2.setCell ⟨g8,0,none⟩ (.slice A2 (pre.length + 1) c2))):=by
     refine Lib.hid ⟨⟨_,k1'.set_ 0 _,?_⟩,?_,?_⟩
     ·have:=own_set hrow2 (p:=⟨g8,0,none⟩) (fun e => by have:=(World.ownsRow.lt hrow2 g8 e).1; omega) (.slice A2 (pre.length + 1) c2)
      simpa using this
     ·have h2 : Below w.heap.size w W2:=(bl_then hb hx1).grown hg2 (Nat.le_trans hb.size hx1.size) (fun k e => by have:=(World.ownsRow.lt k2 k e).1; omega)
      exact h2.setCell (p:=⟨g8,0,none⟩) HG8.out _
     ·have:=hg2.size; simp at this ⊢; omega
    have HR:=Lib.hid hr
    have HKX:=Lib.hid KX
    clear k1 k2 KX hrow2 hg2 k1' hx1 KN hlen2 hlen3 hr hX hXs hX1
    gi_wp2_with (first | (refine wpListIn_load_st rfl _ _ rfl Bx 0 rfl X (strCells s.1) HXX.out _ (Blk.range HKX.out (strCells s.1) (by rw [← HXX.out])) Tryz.underlying96 rfl str_size ?_) | (refine wpListIn_buildOne rfl _ _ _ rfl X rfl Tryz.underlying83 9 info_str2 HXS.out (by omega) (by omega) ?_) | (gi_at_builtin; refine wpListIn_append_run rfl _ _ _ rfl rfl rfl HR.out ?_))
    exact ⟨HK.out.from _,HP.out,HI.out⟩
   case hdone =>
    intro D xs W hD hxs hI hK
    obtain ⟨⟨v,k1,k2⟩,hb,hz⟩:=hI
    have hln : xs.length = (strP (orbE x l kn) a (b - a).toNat).length:=by rw [← hxs]; simp
    rw [hxs,hln] at k2
    clear hxs hln
    obtain ⟨A',c',hv,_,_⟩:=own_slice k2
    subst hv
    obtain ⟨S,hS⟩ : ∃ S,S = strP (orbE x l kn) a (b - a).toNat:=⟨_,rfl⟩
    rw [← hS] at k1 k2
    have HS : Hid (R = some S):=Lib.hid (by rw [HRS.out,hS])
    have hg8W4 : g8 < W4.heap.size:=J8.lt
    have u0 : W.cell? ⟨g8,0,none⟩ = some (.slice A' S.length c'):=k1.cell 0
    have u1 : W.frozen? ⟨g8,0,none⟩ = false:=k1.frozen 0
    have k4 : Blk (W.setCell ⟨g8,0,none⟩ (.slice A' S.length c')) g8 83 #[.slice A' S.length c']:=k1.set_ 0 _
    have hne : (Value.slice A' S.length c').ownBlock ≠ some g8:=fun e => by have:=(World.ownsRow.lt k2 g8 e).1; omega
    have k5:=own_set k2 (p:=⟨g8,0,none⟩) hne (.slice A' S.length c')
    have hb2 : Below w.heap.size w (W.setCell ⟨g8,0,none⟩ (.slice A' S.length c')):=hb.setCell (p:=⟨g8,0,none⟩) HG8.out _
    have hK2 : (W.setCell ⟨g8,0,none⟩ (.slice A' S.length c')).heap[D]? = some (.deferred (some [])):=(KeepsOthers.setCell W ⟨g8,0,none⟩ (.slice A' S.length c')).same D _ hK rfl
    have HA:=Lib.hid k4
    have HR:=Lib.hid k5
    have HB:=Lib.hid hb2
    have HK:=Lib.hid hK2
    clear k1 k2 k4 k5 hb hb2 hK hK2 hne hS HRS
    go_wp2
    refine ⟨by simp,.inl ⟨_,_,rfl,run_takeDeferred HK.out,?_⟩⟩
    have hgr:=grownBy_putObj' (W.setCell ⟨g8,0,none⟩ (.slice A' S.length c')) D (.deferred none)
    have hrr : ∀ r,some D = some r → w.heap.size ≤ r ∧ ∃ o : Obj,(W.setCell ⟨g8,0,none⟩ (.slice A' S.length c')).heap[r]? = some o ∧ o.isCells = false:=fun r e => by cases e; exact ⟨by omega,_,HK.out,rfl⟩
    have HA2:=blk_kept HA.out hgr hrr
    have HR2:=own_base (own_kept HR.out hgr hrr) hws
    have hc5 : ((W.setCell ⟨g8,0,none⟩ (.slice A' S.length c')).putObj D (.deferred none)).cell? ⟨g8,0,none⟩ = some (.slice A' S.length c'):=HA2.cell 0
    exact ⟨.tuple #[.slice A' S.length c',.int .i64 0],by simp [results,Tryz.results27,go_sem,hc5],by rw [HS.out]; exact ⟨⟨_,rfl,HR2⟩,HB.out.grown hgr HB.out.size (fun k e => by cases e; omega)⟩⟩
theorem stretches_any (x : St) (l : List Upd) (A : Option Addr) (un uc : Nat) (a b kn : Int) (w : World) (h : RA updCells 10 w w.heap.size A un uc l) (hun : un ≤ 2000) :
  Calls Tryz.prog 27 #[.agg (satCells x).toArray,.slice A un uc,.agg #[.int .i64 a,.int .i64 b],.int .i64 kn] w (StrRet (stretchesE x l ⟨a,b⟩ kn) w) :=
 callsIn_wide.1 (Stretches_in x l A un uc a b kn w h hun)
end Go.Proofs.YtjidhhfabfnhnaaGreat
