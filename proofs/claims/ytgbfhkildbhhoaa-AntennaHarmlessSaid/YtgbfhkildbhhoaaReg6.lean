/- The region rule inside a round of a range over a function (printed by mk_reg6.py). -/
import Derived.Test.YtgbfhkildbhhoaaReg5
import Derived.RangeFuncNested
import Derived.RangeFuncCalls
import Derived.OrdersIn
import Derived.OwnWalkIn
namespace Go.Proofs.Ytgbfhkildbhhoaa
open Go.RowKit

section
variable {P : Program} {ops : Array Oper} {Q : Exit → Act → World → Prop} {a0 : Act} {w0 : World} {R : Nat → (Nat → Value) → Value → World → Prop} {m : Nat}
theorem wpAny_start {a : Act} {w : World} (m : Nat) (R : Nat → (Nat → Value) → Value → World → Prop) (hc : regChk ops m = true) (hst : ∀ i vals v w w', i < m → R i vals v w → Ext w w' → R i vals v w') (hloc : ∀ i vals vals' v w, i < m → (∀ d, anc ops i d = true → vals d = vals' d) → R i vals v w → R i vals' v w)
    (hob : Obls P ops a w.drew R 0 (ops.toList.take m))
    (hfin : ∀ (vals : Nat → Value) (w' : World), Ext w.drew w' → (∀ i, i < m → R i vals (vals i) w') → wpAny P .any ops Q (ops.size - m) (litL ops.size m) (Lf ops a vals m) w') : wpAny P .any ops Q ops.size (Array.replicate ops.size false) a w.drew := by
  have hsz := chk_size hc
  have hunl : unl (Array.replicate ops.size false) m = m := by
    unfold unl
    rw [List.filter_eq_self.2 (fun i hi => by simp [Array.getD_eq_getD_getElem?, Array.getElem?_replicate]; split <;> rfl)]
    simp
  have h := wpAny_of_obl (P := P) (Q := Q) (a0 := a) (w0 := w.drew) hc hst hloc (fun i o hi ho => by
    have := obls_at (P := P) (ops := ops) (a0 := a) (w0 := w.drew) (R := R) _ 0 hob i o (by rw [List.getElem?_take, if_pos hi]; simpa using ho)
    simpa using this) hfin m (Array.replicate ops.size false) (fun _ => undef) a w.drew hunl ?_
  · rw [show ops.size - m + m = ops.size by omega] at h
    exact h
  · have hf : ∀ i, (Array.replicate ops.size false).getD i false = false := fun i => by simp [Array.getD_eq_getD_getElem?, Array.getElem?_replicate]; split <;> rfl
    constructor
    · exact Ext.refl _
    · simp
    · intro i _; exact hf i
    · intro i _ h; rw [hf] at h; cases h
    · intro i _ h; rw [hf] at h; cases h
    · rfl
    · rfl
    · intro t _; rfl
    · intro i t _ h; rw [hf] at h; cases h

end
theorem rowsIn_wide_ {n : Nat} {P : Program} {row : String} {args : Array Value} {w : World} {R : Value → World → Prop} (h : Rows P row args w R) : RowsIn Fence.wide n P row args w R :=
  fun c cs _ => let ⟨v, w', r, s⟩ := h c cs; ⟨v, w', r, stepsIn_wide.2 s⟩
def noDefer (ops : Array Oper) : Bool := ops.all fun o => match o.op with | .defer _ => false | _ => true
theorem noDefer_spec {ops : Array Oper} (h : noDefer ops = true) {i : Nat} {o : Oper} (ho : ops[i]? = some o) : ∀ c, o.op ≠ .defer c := by
  intro c hc
  have := Array.all_eq_true_iff_forall_mem.1 h o (Array.mem_of_getElem? ho)
  simp [hc] at this
theorem wpAny_round {P : Program} {ops : Array Oper} {Q : Exit → Act → World → Prop} {K : Act → World → Prop} {l n : Nat} (hnd : noDefer ops = true) (hK : ∀ a w, K a w → Q .normal a w) :
    ∀ (fuel : Nat) (listed : Array Bool) (a : Act) (w : World), wpAny P .any ops (Qn K) fuel listed a w → wpAnyIn (Fence.wide.inRound l) n P .any ops Q fuel listed a w := by
  intro fuel
  induction fuel with
  | zero => intro listed a w h; exact ⟨h.1, hK _ _ h.2⟩
  | succ f ih =>
    intro listed a w h
    unfold wpAny at h
    unfold wpAnyIn
    refine ⟨fun e => hK _ _ (h.1 e), fun i hi => ?_⟩
    have h2 := h.2 i hi
    unfold wpOp at h2
    unfold wpOpIn
    cases ho : ops[i]? with
    | none => rw [ho] at h2; exact ih _ _ _ h2
    | some o =>
      rw [ho] at h2
      simp only at h2 ⊢
      by_cases hw : Region.wanted o (yielded ops a.tmps) = true
      · rw [if_pos hw] at h2 ⊢
        rcases h2 with h2 | h2
        · refine ⟨fun _ _ => trivial, ?_⟩
          rw [Oper.semAt_plain _ _ _ (noDefer_spec hnd ho)]
          unfold Oper.wp at h2
          generalize (execOp a.eval o).run P w = r at h2
          cases r with
          | ok x w' =>
            cases x <;> simp only [Oper.upon] at h2 <;> simp only [Oper.uponIn]
            case value v => exact ih _ _ _ h2
            case skip => exact ih _ _ _ h2
            case defer d => exact ih _ _ _ h2
            case enter g args =>
              refine ⟨fun h => (by cases h), CallsIn.inRound l (callsIn_wide.2 (Calls.mono h2 fun e w'' hq => ?_))⟩
              cases e with
              | returned v => exact ih _ _ _ hq
              | panicked ch => exact absurd hq (by simp [Qn])
              | outgrown => exact absurd hq (Qn_notOut _)
            case row row args => exact ⟨fun h => (by cases h), rowsIn_wide_ (Rows.mono h2 fun v w'' hq => ih _ _ _ hq)⟩
            all_goals exact h2.elim
          | halt x w' => cases x <;> simp only [Oper.upon] at h2 <;> simp only [Oper.uponIn] <;> first | exact h2.elim | exact absurd h2 (by simp [Qn])
        · exact absurd h2.2 (Qn_notOut _)
      · rw [if_neg hw] at h2 ⊢
        exact ⟨fun _ _ => trivial, ih _ _ _ h2⟩
/-- A region that draws its order, in a round. -/
theorem wpIn_region_round {P : Program} {ops : Array Oper} {Q : Exit → Act → World → Prop} {a : Act} {w : World} {l n id : Nat} (m : Nat) (R : Nat → (Nat → Value) → Value → World → Prop) (hm : P.follows .mixedOrders = true) (hnd : noDefer ops = true) (hc : regChk ops m = true)
    (hst : ∀ i vals v w w', i < m → R i vals v w → Ext w w' → R i vals v w') (hloc : ∀ i vals vals' v w, i < m → (∀ d, anc ops i d = true → vals d = vals' d) → R i vals v w → R i vals' v w)
    (hob : Obls P ops a w.drew R 0 (ops.toList.take m))
    (hfin : ∀ (vals : Nat → Value) (w' : World), Ext w.drew w' → (∀ i, i < m → R i vals (vals i) w') → wpAny P .any ops (Qn (Q .normal)) (ops.size - m) (litL ops.size m) (Lf ops a vals m) w') : (Code.region id ops true).wpIn (Fence.wide.inRound l) n P Q a w :=
  wpIn_region_any hm (wpAny_round (K := Q .normal) hnd (fun _ _ h => h) _ _ _ _ (wpAny_start m R hc hst hloc hob hfin))
/-- An append whose run is known. -/
theorem wpList_append_run_ {P : Program} {w : World} {ops : Array Oper} {rest : List Oper} {o : Oper} {a : Act} {Q : Exit → Act → World → Prop}
    (hg : o.guard = none) (s x : Operand) (t : TypeId) (hop : o.op = Op.call { callee := Callee.builtin Builtin.append, args := #[s, x], argTypes := #[t, t] })
    {v1 v2 v' : Value} {w' : World} (hs : a.eval s = v1) (hx : a.eval x = v2) (hrun : (Builtin.append_ #[t, t] o.type #[v1, v2]).run P w = .ok v' w')
    (hK : wpList P ops Q rest (a.put o.dst v') w') : wpList P ops Q (o :: rest) a w := by
  refine wpList_plain hg fun K hK' => ?_
  unfold Oper.wp
  simp [execOp, hop, resolve, invoke, builtin, hs, hx, hrun, Result.andThen]
  exact hK' _ _ hK
end Go.Proofs.Ytgbfhkildbhhoaa
