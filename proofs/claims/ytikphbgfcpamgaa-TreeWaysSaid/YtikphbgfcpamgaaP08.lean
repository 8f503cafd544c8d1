/- Rows in worlds that grow from one world: what a comparison reads stays as it is. -/
import Derived.Test.YtikphbgfcpamgaaP05
import Derived.RangeFuncNested
import Derived.RangeFuncBound
import Derived.RangeFuncCalls
import Derived.RangeFuncLeaves
import Derived.Shelf.Abstract
import Derived.Shelf.RegionOpen
import Derived.WalkKit
import Derived.OwnWalkIn
import Derived.TacticsInMore
import Derived.LoopNIn
import Derived.LoopIn
import Derived.Test.YtikphbgfcpamgaaP03
import Derived.Test.YtikphbgfcpamgaaP02
import Derived.Test.YtikphbgfcpamgaaP06
import Derived.Deep.MidRow
import Derived.Laws.OwnMore
namespace Go.Proofs.Ytikphbgfcpamgaa
open Go.RowKit Go.Shelf

def SeqG {α : Type} (n : Nat) (P : Program) (g : Nat) (lb : Array Value) (encs : α → Array Value) (Kp : World → World → Prop) (G : List α → World → Prop) (S Sp : List α → Prop) (N : Nat) (w : World) : Prop :=
  ∀ (l : Nat) (J Jx : List α → World → Prop) (W : World), Ext w W → AbidesFrom W.heap.size J → AbidesFrom W.heap.size Jx → (∀ pre X, J pre X → G pre X) →
    (∀ pre x X, J pre X → pre.length < N → YieldAt Fence.wide (n - 1) P l (encs x) X fun e Y => (e = .returned (.bool true) ∧ J (pre ++ [x]) Y ∧ Kp X Y) ∨ (e = .returned (.bool false) ∧ Jx (pre ++ [x]) Y)) →
    J [] W → CallsIn Fence.wide n P g (#[.func (.yield l) #[] #[]] ++ lb) W fun e Y => (∃ v, e = .returned v) ∧ ((∃ xs, S xs ∧ J xs Y) ∨ (∃ pre, Sp pre ∧ Jx pre Y))

def Bk (d : Nat) (r : Loop) (W : World) : Prop := W.heap[d + 1]? = some (.loop r) ∧ W.heap[d]? = some (.deferred (some []))
section
variable {d : Nat} {r : Loop} {X Y : World}
theorem Bk.lt (h : Bk d r X) : d + 1 < X.heap.size := (Array.getElem?_eq_some_iff.1 h.1).1
theorem Bk.keeps (h : Bk d r X) (k : KeepsFrom d X Y) : Bk d r Y := ⟨k.same _ _ (by omega) h.1 rfl, k.same _ _ (Nat.le_refl _) h.2 rfl⟩
theorem Bk.turn (h : Bk d r X) (r' : Loop) : Bk d r' (X.putObj (d + 1) (.loop r')) := ⟨World.putObj_heap_same h.lt, (World.putObj_heap_other (by omega)).trans h.2⟩
theorem Bk.abide {B : Nat} (hB : d + 2 ≤ B) {row : Option Nat} (h : Bk d r X) (hg : X.grownBy Y row) (hr : ∀ q, row = some q → B ≤ q ∧ ∃ o : Obj, X.heap[q]? = some o ∧ o.isWalk = true) : Bk d r Y :=
  have hne : ∀ k, k < B → some k ≠ row := fun k hk e => by have := (hr k e.symm).1; omega
  ⟨(hg.block _ h.lt (hne _ (by omega))).trans h.1, (hg.block _ (by have := h.lt; omega) (hne _ (by omega))).trans h.2⟩
end
theorem wp_range_seqG {α : Type} {n : Nat} {P : Program} {op : Operand} {ps : Array Tmp} {assign body : Code} {Q : Exit → Act → World → Prop} {a : Act} {w : World}
    (h1 : 1 ≤ n) {gf : Nat} {lb : Array Value} (hg : a.eval op = .func (.func gf) #[] lb) (eg : ∀ args w, (callFunc gf args).run P w = .ok (.enter gf args) w)
    {encs : α → Array Value} {Kp : World → World → Prop} {G : List α → World → Prop} {S Sp : List α → Prop} {N : Nat} (hseq : SeqG (n - 1) P gf lb encs Kp G S Sp N w)
    (hKt : ∀ {A B C : World}, Kp A B → Kp B C → Kp A C) (hKb : ∀ (W : World) (l : Nat) (o o' : Obj), w.heap.size ≤ l → W.heap[l]? = some o → o.isCells = false → Kp W (W.putObj l o')) (hps : ∀ x, (encs x).size = ps.size)
    (I : List α → World → Prop) (Ix : Code → List α → World → Prop) (hIG : ∀ pre W, I pre W → G pre W) (hI : OwnFrom w.heap.size I) (hIx : ∀ c, OwnFrom w.heap.size (Ix c)) (h0 : I [] w)
    (Ax : α → Act → World → Prop) (hAx : ∀ x a', OwnFrom w.heap.size (fun (_ : Unit) W => Ax x a' W))
    (hassign : ∀ (l : Nat) (pre : List α) (x : α) (W : World) (K : Act → World → Prop), I pre W → (∀ a' W', KeepsFrom w.heap.size W W' → Kp W W' → I pre W' → Ax x a' W' → K a' W') →
      assign.wpIn (Fence.wide.inRound l) (n - 1 - 1) P (Exit.then K (fun _ _ _ => False)) { tmps := (ps.zip (encs x)).foldl (fun t (p, v) => t.setIfInBounds p v) a.tmps, defers := [] } W)
    (hbody : ∀ (l : Nat) (pre : List α) (x : α) (a' : Act) (W : World), I pre W → Ax x a' W → pre.length < N → body.wpIn (Fence.wide.inRound l) (n - 1 - 1) P (ownPostG w.heap.size Kp I Ix (pre ++ [x]) W) a' W)
    (hdone : ∀ (D : Nat) (xs : List α) (W : World), w.heap.size ≤ D → S xs → I xs W → W.heap[D]? = some (.deferred (some [])) → Q .normal { a with defers := { target := .collected D, args := #[] } :: a.defers } W)
    (hstop : ∀ (D : Nat) (c : Code) (pre : List α) (W : World), w.heap.size ≤ D → Sp pre → Ix c pre W → W.heap[D]? = some (.deferred (some [])) → c.wpIn Fence.wide n P Q { a with defers := { target := .collected D, args := #[] } :: a.defers } W) :
    (Code.rangeFunc op ps assign body).wpIn Fence.wide n P Q a w := by
  refine wpIn_rangeFunc fun fn hfn => ?_
  obtain ⟨d, hd⟩ : ∃ d, d = w.heap.size := ⟨_, rfl⟩
  obtain ⟨rc, hrc⟩ : ∃ rc : LoopState → Option Code → Loop, rc = fun st pe => { state := st, pending := pe, fn, tmps := a.tmps, params := ps, assign, body, defers := d } := ⟨_, rfl⟩
  obtain ⟨V, hV⟩ : ∃ V, V = (w.alloc (.deferred (some []))).alloc (.loop (rc .ready none)) := ⟨_, rfl⟩
  have hVz : V.heap.size = d + 2 := by rw [hV, World.size_alloc, World.size_alloc, hd]
  have hBV : Bk d (rc .ready none) V := by
    subst hV hd
    refine ⟨?_, (Below.heap_alloc _ _ _ (by simp)).trans (World.alloc_heap_new w _)⟩
    have := World.alloc_heap_new (w.alloc (.deferred (some []))) (.loop (rc .ready none))
    rwa [World.size_alloc] at this
  have hIV : I [] V := by subst hV; exact hI.alloc _ (hI.alloc _ h0)
  have hxV : Ext w V := by subst hV; exact bl_alloc (bl_alloc (Below.refl _ _) _) _
  refine ⟨d + 1, [{ target := .collected d, args := #[] }], V, { target := .fn (.func gf) lb, args := #[.func (.yield (d + 1)) #[] #[]] }, V, gf, #[.func (.yield (d + 1)) #[] #[]] ++ lb, V, ?_, ?_, ?_, ?_, fun _ => h1, ?_⟩
  · have h := run_enterLoop_outer (P := P) (w := w) fn a.tmps ps assign body
    subst hV hrc hd
    exact h
  · simp only [resolve, hg]
    simp [go_sem]
  · intro f' _
    trivial
  · simp [invoke, go_sem, eg]
  have kD : ∀ {A B : World}, KeepsFrom w.heap.size A B → KeepsFrom d A B := fun h => by rw [hd]; exact h
  have turnK : ∀ (W : World) (r r' : Loop), Bk d r W → Kp W (W.putObj (d + 1) (.loop r')) := fun W r r' h => hKb W (d + 1) _ _ (by omega) h.1 rfl
  have ownI : ∀ {β : Type} {J : β → World → Prop} (s : β) (W : World) (r r' : Loop), OwnFrom w.heap.size J → Bk d r W → J s W → J s (W.putObj (d + 1) (.loop r')) := fun s W r r' h hb hj => h.putObj _ hj (by omega) hb.1 rfl
  have noWalk : ∀ {A : World} {row : Option Nat}, (∀ q, row = some q → V.heap.size ≤ q ∧ ∃ o : Obj, A.heap[q]? = some o ∧ o.isWalk = true) → ∀ q, row = some q → w.heap.size ≤ q ∧ ∃ o : Obj, A.heap[q]? = some o ∧ o.isCells = false := fun h q e => by
    obtain ⟨hq, o, ho, hw⟩ := h q e
    exact ⟨by omega, o, ho, Obj.not_cells_of_walk hw⟩
  refine (hseq (d + 1) (fun pre W => I pre W ∧ Bk d (rc .ready none) W) (fun pre W => ∃ c, Ix c pre W ∧ Bk d (rc .done (some c)) W) V hxV
    (fun s A B row h hgr hr => ⟨hI s A B row h.1 hgr (noWalk hr), h.2.abide (by omega) hgr hr⟩) (fun s A B row h hgr hr => ?_) (fun pre X h => hIG pre X h.1) (fun pre x X h hlen => ?_) ⟨hIV, hBV⟩).mono ?_
  · obtain ⟨c, hc, hb⟩ := h
    exact ⟨c, hIx c s A B row hc hgr (noWalk hr), hb.abide (by omega) hgr hr⟩
  · obtain ⟨hi, hb⟩ := h
    have hy := run_yield (P := P) (args := encs x) hb.1 (by rw [hrc]; exact hps x)
    rw [hrc] at hy
    refine ⟨fn, _, assign, body, hy, roundIn_of_wpIn hfn (hassign _ pre x X _ hi fun a' Y hk hp hi' hax => ?_)⟩
    clear hy
    have hb := hb.keeps (kD hk)
    refine ⟨_, run_beginRound hb.1 (by rw [hrc]), ?_⟩
    have hb2 := hb.turn { rc .ready none with state := .busy }
    have hp2 := hKt hp (turnK Y _ { rc .ready none with state := .busy } hb)
    refine wpIn_mono (hbody _ pre x a' _ (ownI _ Y _ _ hI hb hi') (ownI (J := fun (_ : Unit) W => Ax x a' W) () Y _ _ (hAx x a') hb hax) hlen) ?_
    have fin : ∀ (jump : Option Code) (Z : World), KeepsFrom w.heap.size (Y.putObj (d + 1) (.loop { rc .ready none with state := .busy })) Z →
        (Instr.endRound (d + 1) jump).run P Z = .ok (.bool jump.isNone) (Z.putObj (d + 1) (.loop (rc (if jump.isNone then .ready else .done) jump))) ∧ Bk d { rc .ready none with state := .busy } Z := fun jump Z hk => by
      have hb3 := hb2.keeps (kD hk)
      have h := run_endRound (P := P) jump hb3.1
      rw [hrc] at h ⊢
      exact ⟨h, by rw [hrc] at hb3; exact hb3⟩
    intro e a3 Z hp3
    match e, hp3 with
    | .normal, ⟨hk, hkp, hi3⟩ =>
      obtain ⟨hr, hb3⟩ := fin none Z hk
      exact ⟨_, _, hr, .inl ⟨rfl, ⟨ownI _ Z _ _ hI hb3 hi3, hb3.turn _⟩, hKt hp2 (hKt hkp (turnK Z _ _ hb3))⟩⟩
    | .ret, ⟨hk, hi3⟩ =>
      obtain ⟨hr, hb3⟩ := fin (some .ret) Z hk
      exact ⟨_, _, hr, .inr ⟨rfl, .ret, ownI _ Z _ _ (hIx _) hb3 hi3, hb3.turn _⟩⟩
    | .exit id, ⟨hk, hi3⟩ =>
      obtain ⟨hr, hb3⟩ := fin (some (.exit id)) Z hk
      exact ⟨_, _, hr, .inr ⟨rfl, .exit id, ownI _ Z _ _ (hIx _) hb3 hi3, hb3.turn _⟩⟩
    | .goto t, ⟨hk, hi3⟩ =>
      obtain ⟨hr, hb3⟩ := fin (some (.goto t)) Z hk
      exact ⟨_, _, hr, .inr ⟨rfl, .goto t, ownI _ Z _ _ (hIx _) hb3 hi3, hb3.turn _⟩⟩
  · rintro e Z ⟨⟨v, rfl⟩, ⟨xs, hS, hi, hb⟩ | ⟨pre, hSp, c, hi, hb⟩⟩
    · have h := run_endLoop (P := P) hb.1 (by rw [hrc]; simp)
      rw [hrc] at h
      exact ⟨none, _, h, hdone d xs _ (by omega) hS (ownI _ Z _ _ hI hb hi) (hb.turn _).2⟩
    · have h := run_endLoop (P := P) hb.1 (by rw [hrc]; simp)
      rw [hrc] at h
      exact ⟨some c, _, h, hstop d c pre _ (by omega) hSp (ownI _ Z _ _ (hIx c) hb hi) (hb.turn _).2⟩
end Go.Proofs.Ytikphbgfcpamgaa
namespace Go.Proofs.Ytikphbgfcpamgaa
open Go.RowKit Go.Shelf
attribute [local go_sem] Oper.semAt_some

def wayF (T : List Brn) (q : Nat → Brn → Bool) : Nat → Nat → Int → List (Ack × Int)
  | 0, _, _ => []
  | f + 1, j, k => if k = -1 then [] else match T[k.toNat]? with
    | none => []
    | some b => (⟨b.opt, b.slot, q j b⟩, if q j b then b.yes else b.no) :: wayF T q f (j + 1) (if q j b then b.yes else b.no)
theorem wayF_fuel {T : List Brn} {q : Nat → Brn → Bool} (hd : Down T) : ∀ (m f f' j : Nat) (k : Int), (k + 1).toNat ≤ m → -1 ≤ k → (k + 1).toNat ≤ f → (k + 1).toNat ≤ f' → wayF T q f j k = wayF T q f' j k := by
  intro m
  induction m with
  | zero =>
    intro f f' j k h1 h2 _ _
    obtain rfl : k = -1 := by omega
    cases f <;> cases f' <;> simp [wayF]
  | succ m ih =>
    intro f f' j k h1 h2 h3 h4
    by_cases hk : k = -1
    · subst hk; cases f <;> cases f' <;> simp [wayF]
    · obtain ⟨f, rfl⟩ : ∃ x, f = x + 1 := ⟨f - 1, by omega⟩
      obtain ⟨f', rfl⟩ : ∃ x, f' = x + 1 := ⟨f' - 1, by omega⟩
      rw [wayF, wayF, if_neg hk, if_neg hk]
      cases hb : T[k.toNat]? with
      | none => rfl
      | some b =>
        have := hd _ _ hb
        dsimp only
        congr 1
        cases q j b
        · exact ih _ _ _ _ (by simp; omega) (by simp; omega) (by simp; omega) (by simp; omega)
        · exact ih _ _ _ _ (by simp; omega) (by simp; omega) (by simp; omega) (by simp; omega)
def way (T : List Brn) (q : Nat → Brn → Bool) (j : Nat) (k : Int) : List (Ack × Int) := wayF T q (k + 1).toNat j k
theorem way_end (T : List Brn) (q : Nat → Brn → Bool) (j : Nat) : way T q j (-1) = [] := rfl
theorem way_node {T : List Brn} (q : Nat → Brn → Bool) (hd : Down T) {r : Nat} {b : Brn} (h : T[r]? = some b) (j : Nat) : way T q j r = (⟨b.opt, b.slot, q j b⟩, if q j b then b.yes else b.no) :: way T q (j + 1) (if q j b then b.yes else b.no) := by
  have hz := hd _ _ h
  unfold way
  rw [show ((r : Int) + 1).toNat = r + 1 by omega, wayF, if_neg (by omega), Int.toNat_natCast, h]
  dsimp only
  congr 1
  cases q j b
  · exact wayF_fuel hd (r + 1) _ _ _ _ (by simp; omega) (by simp; omega) (by simp; omega) (by simp)
  · exact wayF_fuel hd (r + 1) _ _ _ _ (by simp; omega) (by simp; omega) (by simp; omega) (by simp)
theorem way_len (T : List Brn) (q : Nat → Brn → Bool) : ∀ (f j : Nat) (k : Int), (wayF T q f j k).length ≤ f := by
  intro f
  induction f with
  | zero => intro j k; simp [wayF]
  | succ f ih =>
    intro j k
    rw [wayF]
    split
    · simp
    · split
      · simp
      · rw [List.length_cons]
        have := ih (j + 1) (if q j ‹Brn› then ‹Brn›.yes else ‹Brn›.no)
        omega
theorem way_folD {T : List Brn} (p : Int → Int → Bool) (hd : Down T) {k : Int} {D : DT} (h : Rep T k D) : ∀ j, (way T (fun _ b => p b.opt b.slot) j k).map (·.1) = folD p D := by
  induction h with
  | leaf => intro j; rfl
  | node hk _ _ h1 h2 =>
    intro j
    rw [way_node _ hd hk, List.map_cons, folD]
    congr 1
    cases hp : p _ _
    · simp only [Bool.false_eq_true, if_false]; exact h1 _
    · simp only [if_true]; exact h2 _

structure KpB (ex : Nat → Prop) (B1 B0 : Nat) (X Y : World) : Prop where
  low : Below B1 X Y
  blk : ∀ k, B1 ≤ k → k < B0 → ¬ ex k → Y.heap[k]? = X.heap[k]?
section
variable {ex : Nat → Prop} {B1 B0 : Nat} {A B C : World}
theorem KpB.trans (h : KpB ex B1 B0 A B) (k : KpB ex B1 B0 B C) : KpB ex B1 B0 A C :=
  ⟨Below.trans h.low k.low, fun i h1 h2 h3 => (k.blk i h1 h2 h3).trans (h.blk i h1 h2 h3)⟩
theorem KpB.ext (h : Ext A B) (h1 : B1 ≤ B0) (h0 : B0 ≤ A.heap.size) : KpB ex B1 B0 A B := ⟨h.mono (Nat.le_trans h1 h0), fun k _ hk _ => h.block k (by omega)⟩
theorem KpB.get (h : KpB ex B1 B0 A B) {k : Nat} (hk : k < B0) (hx : ¬ ex k) : B.heap[k]? = A.heap[k]? := by
  by_cases h1 : k < B1
  · exact h.low.block k h1
  · exact h.blk k (by omega) hk hx
theorem KpB.blk_ {g : Nat} {t : TypeId} {cs : Array Value} (h : KpB ex B1 B0 A B) (hb : Blk A g t cs) (hx : ¬ ex g ∧ g < B0) : Blk B g t cs := (h.get hx.2 hx.1).trans hb
end
theorem ext_grown {A B : World} (h : Ext A B) : A.grownBy B none := ⟨h.os, h.tape, h.output, h.size, fun k hk _ => h.block k hk⟩
def ackV (a : Ack) : Value := .agg #[.int .i64 a.opt, .int .i64 a.slot, .bool a.is_]
def brnV (b : Brn) : Value := .agg #[.int .i64 b.at_, .int .i64 b.opt, .int .i64 b.slot, .int .i64 b.yes, .int .i64 b.no]
def encW (x : Ack × Int) : Array Value := #[.agg #[.int .i64 x.1.opt, .int .i64 x.1.slot, .bool x.1.is_], .int .i64 x.2]

set_option maxRecDepth 100000 in
set_option maxHeartbeats 1000000 in
theorem way1_in (ex : Nat → Prop) (B1 B0 bt bc cg : Nat) (caps : Array Value) (T : List Brn) (TA : Option Addr) (tn tc : Nat) (k0 : Int) (q : Nat → Brn → Bool) (G : List (Ack × Int) → World → Prop) (n : Nat) (w : World) (hB1 : B1 ≤ B0) (hB0 : B0 ≤ w.heap.size)
    (eg : ∀ args w, (callFunc cg args).run Try.prog w = .ok (.enter cg args) w)
    (hT : RA brnCells 5 w B1 TA tn tc T) (hd : Down T) (hk0 : -1 ≤ k0 ∧ k0 < T.length)
    (kt : Blk w bt 33 #[.int .i64 k0, .slice TA tn tc]) (kc : Blk w bc 99 #[.func (.func cg) #[] caps]) (ht : ¬ ex bt ∧ bt < B0) (hc : ¬ ex bc ∧ bc < B0)
    (hp : ∀ pre b W, b ∈ T → pre.length < (way T q 0 k0).length → G pre W → KpB ex B1 B0 w W → Calls Try.prog cg (#[.agg #[.int .i64 b.at_, .int .i64 b.opt, .int .i64 b.slot, .int .i64 b.yes, .int .i64 b.no]] ++ caps) W fun e W' => e = .returned (.bool (q pre.length b)) ∧ Ext W W') :
    SeqG n Try.prog 57 #[.pointer (some ⟨bt, 0, none⟩), .pointer (some ⟨bc, 0, none⟩)] encW (KpB ex B1 B0) G (fun xs => xs = way T q 0 k0) (fun pre => pre <+: way T q 0 k0) (way T q 0 k0).length w := by
  intro l J Jx W hW hJ hJx hJG hY h0
  refine callsIn_of_wp Try.func57 rfl trivial ?_ rfl
  simp only [Try.ntmps57, List.size_toArray, List.length_cons, List.length_nil, Nat.reduceAdd, Nat.reduceSub, Array.replicate_succ, Array.replicate_zero, List.push_toArray, List.append_toArray, List.nil_append, List.cons_append]
  have HP := Lib.hid hp
  have HY := Lib.hid hY
  have HJ := Lib.hid hJ
  have HJG := Lib.hid hJG
  have HT := Lib.hid hT
  have HD := Lib.hid hd
  have hKW : KpB ex B1 B0 w W := KpB.ext hW hB1 hB0
  have hWs : W.heap.size ≤ W.heap.size := Nat.le_refl _
  have hw0 : w.heap.size ≤ W.heap.size := hW.size
  have c0 : W.cell? ⟨bt, 0, none⟩ = some (.int .i64 k0) := (hKW.blk_ kt ht).cell 0
  have HS0 : Hid (([] : List (Ack × Int)) ++ way T q 0 k0 = way T q 0 k0) := Lib.hid rfl
  have hln := hT.len
  have hk1 : -1 ≤ k0 := hk0.1
  have hk2 : k0 < (tn : Int) := by omega
  have HLN := Lib.hid hln
  clear hp hY hJ hJx hJG hT hd hk0 hln
  gi_wp2
  gi_loopw [4] (fun v wr => ∃ (k : Int) (pre : List (Ack × Int)), v = .int .i64 k ∧ -1 ≤ k ∧ k < (tn : Int) ∧ Hid (pre ++ way T q pre.length k = way T q 0 k0) ∧ J pre wr ∧ KpB ex B1 B0 w wr ∧ W.heap.size ≤ wr.heap.size)
    (fun v _ => (intOf v + 1).toNat)
  case atStart => exact ⟨k0, [], rfl, hk1, hk2, HS0, h0, hKW, hWs⟩
  case round =>
    clear HS0 h0 hKW c0 hk1 hk2
    obtain ⟨k, pre, rfl, hk1, hk2, HS, hJp, hK, hsz⟩ := hrel
    by_cases hke : k = -1
    · subst hke
      have hend : pre = way T q 0 k0 := by rw [← HS.out, way_end, List.append_nil]
      have HE := Lib.hid hend
      clear hend
      gi_wp2
      go_end0
      exact ⟨⟨_, rfl⟩, .inl ⟨pre, HE.out, hJp⟩⟩
    · obtain ⟨r, rfl⟩ : ∃ r : Nat, k = r := ⟨k.toNat, by omega⟩
      have hrt : r < tn := by omega
      have hkb : ((r : Int) != -1) = true := by simp
      obtain ⟨b, o, hz, hA, _, hcell⟩ := (HT.out.below hK.low).at_ brn_len hrt
      have hb : T[r]? = some T[r] := List.getElem?_eq_getElem hz
      have hbm : T[r] ∈ T := List.getElem_mem hz
      have hdn := HD.out _ _ hb
      have hwn := way_node q HD.out hb pre.length
      generalize T[r] = br at hcell hb hbm hdn hwn
      have a0 : wr.cell? ⟨b, o + r * 5, none⟩ = some (.int .i64 br.at_) := hcell 0 (by omega)
      have a1 : wr.cell? ⟨b, o + r * 5 + 1, none⟩ = some (.int .i64 br.opt) := hcell 1 (by omega)
      have a2 : wr.cell? ⟨b, o + r * 5 + 2, none⟩ = some (.int .i64 br.slot) := hcell 2 (by omega)
      have a3 : wr.cell? ⟨b, o + r * 5 + 3, none⟩ = some (.int .i64 br.yes) := hcell 3 (by omega)
      have a4 : wr.cell? ⟨b, o + r * 5 + 4, none⟩ = some (.int .i64 br.no) := hcell 4 (by omega)
      have c1 : wr.cell? ⟨bt, 1, none⟩ = some (.slice TA tn tc) := (hK.blk_ kt ht).cell 1
      have c2 : wr.cell? ⟨bc, 0, none⟩ = some (.func (.func cg) #[] caps) := (hK.blk_ kc hc).cell 0
      subst hA
      have hrz : (r : Int) < (tn : Int) := by omega
      have HHS := Lib.hid (HS.out.symm.trans (congrArg (pre ++ ·) hwn))
      have hlen : pre.length < (way T q 0 k0).length := by rw [HHS.out]; simp
      have HDN := Lib.hid hdn
      have HB := Lib.hid hbm
      have hx4 : Ext wr (wr.alloc (.cells #[.int .i64 br.at_, .int .i64 br.opt, .int .i64 br.slot, .int .i64 br.yes, .int .i64 br.no] 30)) := bl_alloc (Below.refl _ _) _
      have c2n := ext_cell hx4 c2
      have J4 := Blk.new wr 30 #[.int .i64 br.at_, .int .i64 br.opt, .int .i64 br.slot, .int .i64 br.yes, .int .i64 br.no]
      have hB4 : B0 ≤ wr.heap.size := Nat.le_trans hB0 (Nat.le_trans hw0 hsz)
      have hJ4 := HJ.out _ _ _ none hJp (ext_grown hx4) (fun r e => by cases e)
      have hK4 := hK.trans (KpB.ext hx4 hB1 hB4)
      have hcall := HP.out pre br _ hbm hlen (HJG.out _ _ hJ4) hK4
      obtain ⟨qq, hqq⟩ : ∃ qq, qq = q pre.length br := ⟨_, rfl⟩
      have hway := HS.out.symm.trans (congrArg (pre ++ ·) hwn)
      rw [← hqq] at hcall hway
      obtain ⟨nx, hnx⟩ : ∃ nx, nx = if qq = true then br.yes else br.no := ⟨_, rfl⟩
      rw [← hnx] at hway
      have hnb : -1 ≤ nx ∧ nx < (r : Int) := by
        rw [hnx]
        cases qq
        · exact hdn.1
        · exact hdn.2
      obtain ⟨hnb1, hnb2⟩ := hnb
      have HC := Lib.hid hcall
      have HWAY := Lib.hid hway
      have HNX := Lib.hid hnx
      have HJ4 := Lib.hid hJ4
      have HK4 := Lib.hid hK4
      clear hcell hz hb hbm hwn hdn HS hqq hcall hway hnx HHS HDN HB hJ4 hK4
      gi_wp2_with fail
      refine ⟨trivial, (fun h => by cases h), (callsIn_wide.2 HC.out).mono ?_⟩
      rintro e W2 ⟨rfl, hb2⟩
      have J5 := J4.ext hb2
      have hsz2 : W.heap.size ≤ W2.heap.size := Nat.le_trans hsz (Nat.le_trans hx4.size hb2.size)
      have hJ5 : J pre W2 := HJ.out _ _ _ none HJ4.out (ext_grown hb2) (fun r e => by cases e)
      have hK5 : KpB ex B1 B0 w W2 := HK4.out.trans (KpB.ext hb2 hB1 (Nat.le_trans hB4 hx4.size))
      generalize wr.heap.size = g4 at J5 ⊢
      clear HC HJ4 HK4 J4 hx4 hb2 c1 c2 c2n a0 a1 a2 a3 a4 hJp hK hsz
      have d1 : W2.cell? ⟨g4, 1, none⟩ = some (.int .i64 br.opt) := J5.cell 1
      have d2 : W2.cell? ⟨g4, 2, none⟩ = some (.int .i64 br.slot) := J5.cell 2
      have d3 : W2.cell? ⟨g4, 3, none⟩ = some (.int .i64 br.yes) := J5.cell 3
      have d4 : W2.cell? ⟨g4, 4, none⟩ = some (.int .i64 br.no) := J5.cell 4
      obtain ⟨fn, tmps, assign, body, hy, hR⟩ := HY.out pre (⟨br.opt, br.slot, qq⟩, nx) W2 hJ5 hlen
      dsimp only [encW] at hy
      clear J5 hJ5
      have hpl : (pre ++ [((⟨br.opt, br.slot, qq⟩, nx) : Ack × Int)]).length = pre.length + 1 := by simp
      have HPL := Lib.hid hpl
      clear hpl
      cases qq
      · obtain rfl : nx = br.no := HNX.out
        gi_wp2_with fail
        refine ⟨(fun h => by cases h), hR.mono ?_⟩
        rintro e W5 (⟨rfl, hJ6, hk6⟩ | ⟨rfl, hJx6⟩)
        · have hK6 := hK5.trans hk6
          have hsz6 : W.heap.size ≤ W5.heap.size := Nat.le_trans hsz2 hk6.low.size
          gi_wp2
          go_roundw
          case rel => exact ⟨br.no, _, rfl, hnb1, by omega, Lib.hid (by rw [HPL.out, HWAY.out]; simp), hJ6, hK6, hsz6⟩
          case measure => simp [intOf]; omega
        · gi_wp2
          refine bodyPost_ret (results_none rfl _ _ _) rfl ?_
          exact ⟨⟨_, rfl⟩, .inr ⟨_, ⟨way T q (pre.length + 1) br.no, by rw [HWAY.out]; simp⟩, hJx6⟩⟩
      · obtain rfl : nx = br.yes := HNX.out
        gi_wp2_with fail
        refine ⟨(fun h => by cases h), hR.mono ?_⟩
        rintro e W5 (⟨rfl, hJ6, hk6⟩ | ⟨rfl, hJx6⟩)
        · have hK6 := hK5.trans hk6
          have hsz6 : W.heap.size ≤ W5.heap.size := Nat.le_trans hsz2 hk6.low.size
          gi_wp2
          go_roundw
          case rel => exact ⟨br.yes, _, rfl, hnb1, by omega, Lib.hid (by rw [HPL.out, HWAY.out]; simp), hJ6, hK6, hsz6⟩
          case measure => simp [intOf]; omega
        · gi_wp2
          refine bodyPost_ret (results_none rfl _ _ _) rfl ?_
          exact ⟨⟨_, rfl⟩, .inr ⟨_, ⟨way T q (pre.length + 1) br.yes, by rw [HWAY.out]; simp⟩, hJx6⟩⟩
end Go.Proofs.Ytikphbgfcpamgaa
namespace Go.Proofs.Ytikphbgfcpamgaa
open Go.RowKit

theorem gb_trans {a b c : World} {row : Option Nat} (h : a.grownBy b row) (k : b.grownBy c row) : a.grownBy c row :=
  ⟨k.os.trans h.os, k.tape.trans h.tape, k.output.trans h.output, Nat.le_trans h.size k.size, fun j hj hr => (k.block j (Nat.lt_of_lt_of_le hj h.size) hr).trans (h.block j hj hr)⟩
theorem grown_ext {a b : World} {row : Option Nat} (h : Ext a b) : a.grownBy b row := ⟨h.os, h.tape, h.output, h.size, fun j hj _ => h.block j hj⟩
theorem grown_refl (a : World) (row : Option Nat) : a.grownBy a row := grown_ext (Ext.refl a)

section
variable {α : Type} {cells : α → List Value} {s : Nat}
theorem flat_len_ (hs : ∀ x, (cells x).length = s) (l : List α) : (l.flatMap cells).length = l.length * s := by
  induction l with
  | nil => simp
  | cons x r ih => rw [List.flatMap_cons, List.length_append, ih, hs, List.length_cons, Nat.succ_mul]; omega
theorem flat_at_ (hs : ∀ x, (cells x).length = s) (l : List α) (k : Nat) (h : k < l.length) (j : Nat) (hj : j < s) : (l.flatMap cells)[k * s + j]? = (cells l[k])[j]? := by
  induction l generalizing k with
  | nil => simp at h
  | cons x r ih =>
    rw [List.flatMap_cons]
    cases k with
    | zero => rw [Nat.zero_mul, Nat.zero_add, List.getElem?_append_left (by rw [hs]; exact hj)]; rfl
    | succ k =>
      rw [List.getElem?_append_right (by rw [hs, Nat.succ_mul]; omega), hs, show (k + 1) * s + j - s = k * s + j by rw [Nat.succ_mul]; omega]
      exact ih k (by simpa using h)
theorem flat_set (hs : ∀ x, (cells x).length = s) (l : List α) (i : Nat) (hi : i < l.length) (x : α) : (l.set i x).flatMap cells = (l.flatMap cells).take (i * s) ++ cells x ++ (l.flatMap cells).drop (i * s + s) := by
  induction l generalizing i with
  | nil => simp at hi
  | cons y r ih =>
    cases i with
    | zero =>
      rw [List.set_cons_zero, List.flatMap_cons, List.flatMap_cons, Nat.zero_mul, List.take_zero, List.nil_append, Nat.zero_add, List.drop_append_of_le_length (by rw [hs]; exact Nat.le_refl _), List.drop_of_length_le (by rw [hs]; exact Nat.le_refl _), List.nil_append]
    | succ i =>
      have hi' : i < r.length := by simpa using hi
      have e1 : List.take (i * s + s) (cells y ++ r.flatMap cells) = cells y ++ List.take (i * s) (r.flatMap cells) := by
        rw [List.take_append, List.take_of_length_le (l := cells y) (by rw [hs]; omega), hs, show i * s + s - s = i * s by omega]
      have e2 : List.drop (i * s + s + s) (cells y ++ r.flatMap cells) = List.drop (i * s + s) (r.flatMap cells) := by
        rw [List.drop_append, List.drop_of_length_le (l := cells y) (by rw [hs]; omega), hs, show i * s + s + s - s = i * s + s by omega, List.nil_append]
      rw [List.set_cons_succ, List.flatMap_cons, List.flatMap_cons, ih i hi', Nat.succ_mul, e1, e2]
      simp
end

def RowS {α : Type} (cells : α → List Value) (s : Nat) (base : Nat) (e : TypeId) (g n c : Nat) (w : World) (l : List α) : Prop :=
  l.length = n ∧ w.ownsRow base e s (.slice (some ⟨g, 0, none⟩) n c) n (l.flatMap cells)
section
variable {α : Type} {cells : α → List Value} {s base : Nat} {e : TypeId} {g n c : Nat} {w w' : World} {l : List α}
theorem RowS.lt (h : RowS cells s base e g n c w l) : g < w.heap.size := (World.ownsRow.lt h.2 g rfl).2
theorem RowS.le (h : RowS cells s base e g n c w l) : n ≤ c ∧ c ≤ maxLen := by
  obtain ⟨_, _, hv, h1, h2⟩ := own_slice h.2
  injection hv with _ _ hv
  subst hv
  exact ⟨h1, h2⟩
theorem RowS.ext (h : RowS cells s base e g n c w l) (hx : Ext w w') : RowS cells s base e g n c w' l := ⟨h.1, own_ext h.2 hx⟩
theorem RowS.range (hs : ∀ x, (cells x).length = s) (h : RowS cells s base e g n c w l) {k : Nat} (hk : k < l.length) : w.rangeAt g (k * s) (cells l[k]) := fun j v hv => by
  have hj : j < s := by rw [← hs l[k]]; exact (List.getElem?_eq_some_iff.1 hv).1
  have h1 : k * s + j < n * s := by
    have := Nat.mul_le_mul_right s (show k + 1 ≤ n by have := h.1; omega)
    rw [Nat.succ_mul] at this
    omega
  rw [h.2.cellAt _ h1, flat_at_ hs l k hk j hj]
  exact hv
theorem RowS.there (hs : ∀ x, (cells x).length = s) (h : RowS cells s base e g n c w l) {k : Nat} (hk : k < l.length) : w.there g (k * s) s := fun j hj => by
  have h1 : k * s + j < n * s := by
    have := Nat.mul_le_mul_right s (show k + 1 ≤ n by have := h.1; omega)
    rw [Nat.succ_mul] at this
    omega
  refine ⟨?_, h.2.frozenAt _⟩
  rw [h.2.cellAt _ h1, flat_at_ hs l k hk j hj]
  simp [hs, hj]
theorem own_setCells (vs : List Value) : ∀ (o : Nat) (w : World) (xs : List Value), w.ownsRow base e s (.slice (some ⟨g, 0, none⟩) n c) n xs → o + vs.length ≤ xs.length →
    (w.setCells g o vs).ownsRow base e s (.slice (some ⟨g, 0, none⟩) n c) n (xs.take o ++ vs ++ xs.drop (o + vs.length)) ∧ w.grownBy (w.setCells g o vs) (some g) := by
  induction vs with
  | nil => intro o w xs h _; exact ⟨by simpa [World.setCells] using h, grown_refl _ _⟩
  | cons v r ih =>
    intro o w xs h ho
    simp only [List.length_cons] at ho
    obtain ⟨h1, h2⟩ := h.stored o v
    obtain ⟨h3, h4⟩ := ih (o + 1) _ _ h1 (by simp; omega)
    refine ⟨?_, gb_trans h2 h4⟩
    have he : (xs.set o v).take (o + 1) ++ r ++ (xs.set o v).drop (o + 1 + r.length) = xs.take o ++ (v :: r) ++ xs.drop (o + (v :: r).length) := by
      rw [List.drop_set_of_lt (by omega), List.take_set, show xs.take (o + 1) = xs.take o ++ [xs[o]] from List.take_succ_eq_append_getElem (by omega)]
      rw [List.set_append_right _ _ (by simp; omega)]
      have : o - (xs.take o).length = 0 := by simp; omega
      rw [this, List.set_cons_zero, List.length_cons, show o + 1 + r.length = o + (r.length + 1) by omega]
      simp
    rw [← he]
    exact h3
theorem RowS.store (hs : ∀ x, (cells x).length = s) (h : RowS cells s base e g n c w l) {k : Nat} (hk : k < l.length) (x : α) : RowS cells s base e g n c (w.setCells g (k * s) (cells x)) (l.set k x) ∧ w.grownBy (w.setCells g (k * s) (cells x)) (some g) := by
  have hlen : k * s + (cells x).length ≤ (l.flatMap cells).length := by
    rw [hs, flat_len_ hs]
    have := Nat.mul_le_mul_right s (show k + 1 ≤ l.length by omega)
    rw [Nat.succ_mul] at this
    exact this
  obtain ⟨h1, h2⟩ := own_setCells (cells x) (k * s) w _ h.2 hlen
  refine ⟨⟨by simpa using h.1, ?_⟩, h2⟩
  rw [hs] at h1
  rw [flat_set hs l k hk x]
  exact h1
end
theorem wpList_store_st {P : Program} {ops : Array Oper} {rest : List Oper} {op : Oper} {a : Act} {w : World} {Q : Exit → Act → World → Prop} (hgd : op.guard = none) (ty : TypeId) (x y : Operand) (ho : op.op = .store ty x y)
    (b o : Nat) (X : Array Value) (cs : List Value) (hX : cs.toArray = X) (hx : a.eval x = .pointer (some ⟨b, o, none⟩)) (hy : a.eval y = .agg X)
    (ht : w.there b o cs.length) (hi : (P.info? ty).map (·.size) = some cs.length) (h1 : ∀ v ∈ cs, v.oneCell' = true)
    (h : wpList P ops Q rest (a.put op.dst undef) (w.setCells b o cs)) : wpList P ops Q (op :: rest) a w := by
  subst hX
  exact wpList_store_mid hgd ty x y ho b o cs.toArray hx hy (by simpa using ht) (by simpa using hi) (all_oneCell_toArray h1) (by simpa using h)
theorem yields_sub {P : Program} {ops : Array Oper} {o : Oper} {a : Act} {t : TypeId} {x y : Operand} {p q r : Int} (ho : o.op = .binOp .sub t x y t) (hg : o.guard = none) (hx : a.eval x = .int .i64 p) (hy : a.eval y = .int .i64 q) (hr : IntKind.i64.wrap (p - q) = r) : Yields P ops o (.int .i64 r) a :=
  .inl ⟨by simp [Region.wanted, hg], fun w => by
    simp only [execOp, ho, hx, hy]
    simp [go_sem, hr]⟩

end Go.Proofs.Ytikphbgfcpamgaa
namespace Go.Proofs.Ytikphbgfcpamgaa
open Go.RowKit

def RowG (w0 : World) {α : Type} (cells : α → List Value) (s : Nat) (base : Nat) (e : TypeId) (g n c : Nat) (w : World) (l : List α) : Prop :=
  l.length = n ∧ RowS cells s base e g n c w l ∧ w0.grownBy w (some g)
section
variable {α : Type} {cells : α → List Value} {s base : Nat} {e : TypeId} {g n c : Nat} {w0 w w' : World} {l : List α}
theorem RowG.lt (h : RowG w0 cells s base e g n c w l) : g < w.heap.size := h.2.1.lt
theorem RowG.le (h : RowG w0 cells s base e g n c w l) : n ≤ c ∧ c ≤ maxLen := h.2.1.le
theorem RowG.ext (h : RowG w0 cells s base e g n c w l) (hx : Ext w w') : RowG w0 cells s base e g n c w' l := ⟨h.1, h.2.1.ext hx, gb_trans h.2.2 (grown_ext hx)⟩
theorem RowG.gb (h : RowG w0 cells s base e g n c w l) (hx : Ext w w') : w0.grownBy w' (some g) := gb_trans h.2.2 (grown_ext hx)
theorem RowG.range (hs : ∀ x, (cells x).length = s) (h : RowG w0 cells s base e g n c w l) {k : Nat} (hk : k < l.length) : w.rangeAt g (k * s) (cells l[k]) := h.2.1.range hs hk
theorem RowG.there (hs : ∀ x, (cells x).length = s) (h : RowG w0 cells s base e g n c w l) {k : Nat} (hk : k < l.length) : w.there g (k * s) s := h.2.1.there hs hk
theorem RowG.store (hs : ∀ x, (cells x).length = s) (h : RowG w0 cells s base e g n c w l) {k : Nat} (hk : k < l.length) (x : α) : RowG w0 cells s base e g n c (w.setCells g (k * s) (cells x)) (l.set k x) ∧ w.grownBy (w.setCells g (k * s) (cells x)) (some g) := by
  obtain ⟨h1, h2⟩ := h.2.1.store hs hk x
  exact ⟨⟨h1.1, h1, gb_trans h.2.2 h2⟩, h2⟩
end
end Go.Proofs.Ytikphbgfcpamgaa
