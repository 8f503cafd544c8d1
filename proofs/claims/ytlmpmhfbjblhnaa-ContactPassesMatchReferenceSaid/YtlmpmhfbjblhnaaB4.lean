/- Passes: what they are, in plain form; the marks that ranges over spells leave. -/
import Derived.Test.YtlmpmhfbjblhnaaB3
namespace Go.Proofs.Ytlmpmhfbjblhnaa
open Go.RowKit Go.Shelf

/-- The passes of a satellite at a station. -/
def passOne (s : St) (st : Stn) (span x : Spl) : Pas := ⟨s.id, st.id, widerP x (-s.orbit.slack) span, widerP x s.orbit.slack span⟩
def pairP (s : St) (span : Spl) (st : Stn) : List Pas := (spellsP (plainP s.orbit st) (span.fr - s.orbit.slack) (span.tt - span.fr + 2 * s.orbit.slack).toNat).map (passOne s st span)
def allP (sats : List St) (stns : List Stn) (span : Spl) : List Pas := sats.flatMap fun s => stns.flatMap (pairP s span)
def ltPas (x y : Pas) : Bool := ltOf cmpPas x y
def passesP (sats : List St) (stns : List Stn) (span : Spl) : Option (List Pas) :=
  if (spanOK span && satsOK sats && stnsOK stns) = true then (if (allP sats stns span).length ≤ 64 then some (sortP (ltOf cmpPas) (allP sats stns span)) else none) else none

/-- The marks that stand among a frame's deferred calls. -/
def mark (D : Nat) : Deferred := { target := .collected D, args := #[] }
structure MarksOK (B : Nat) (Ds : List Nat) (W : World) : Prop where
  nodup : Ds.Nodup
  ok : ∀ D ∈ Ds, B ≤ D ∧ W.heap[D]? = some (.deferred (some []))
theorem MarksOK.nil (B : Nat) (W : World) : MarksOK B [] W := ⟨List.nodup_nil, fun D h => by cases h⟩
theorem MarksOK.lt {B : Nat} {Ds : List Nat} {W : World} (h : MarksOK B Ds W) : ∀ D ∈ Ds, D < W.heap.size := fun D hD => (Array.getElem?_eq_some_iff.1 (h.ok D hD).2).1
theorem MarksOK.keeps {B : Nat} {Ds : List Nat} {W W' : World} (h : MarksOK B Ds W) (hk : KeepsOthers W W') : MarksOK B Ds W' := ⟨h.nodup, fun D hD => ⟨(h.ok D hD).1, hk.same D _ (h.ok D hD).2 rfl⟩⟩
theorem MarksOK.ext {B : Nat} {Ds : List Nat} {W W' : World} (h : MarksOK B Ds W) (hx : Ext W W') : MarksOK B Ds W' := ⟨h.nodup, fun D hD => ⟨(h.ok D hD).1, (hx.block D (h.lt D hD)).trans (h.ok D hD).2⟩⟩
theorem MarksOK.cons {B : Nat} {Ds : List Nat} {W : World} {D : Nat} (h : MarksOK B Ds W) (hB : B ≤ D) (hD : W.heap[D]? = some (.deferred (some []))) (hn : D ∉ Ds) : MarksOK B (D :: Ds) W :=
  ⟨List.nodup_cons.2 ⟨hn, h.nodup⟩, fun E hE => by
    rcases List.mem_cons.1 hE with rfl | hE
    · exact ⟨hB, hD⟩
    · exact h.ok E hE⟩
theorem leave_marks {F : Fence} {n : Nat} {P : Program} {fn : Func} {tmps : Array Value} {R : Ending → World → Prop} {B : Nat} {J : World → Prop} (hJ : OwnFrom B (fun (_ : Unit) W => J W))
    (hfin : ∀ W, J W → ∃ v, (results fn tmps).run P W = .ok v W ∧ R (.returned v) W) : ∀ (Ds : List Nat) (W : World), MarksOK B Ds W → J W → LeavesInM F n P fn tmps R (Ds.map mark) .returning W := by
  intro Ds
  induction Ds with
  | nil => intro W _ h; exact hfin W h
  | cons D Ds ih =>
    intro W hm h
    have hD := hm.ok D (List.mem_cons_self ..)
    have hn := List.nodup_cons.1 hm.nodup
    refine ⟨by simp, .inl ⟨D, W.putObj D (.deferred none), rfl, run_takeDeferred hD.2, ih _ ⟨hn.2, fun E hE => ?_⟩ ?_⟩⟩
    · have := hm.ok E (List.mem_cons_of_mem _ hE)
      exact ⟨this.1, (World.putObj_heap_other (fun e => hn.1 (by cases e; exact hE))).trans this.2⟩
    · exact hJ () W _ (some D) h (grownBy_putObj' W D _) (fun r e => by cases e; exact ⟨hD.1, _, hD.2, rfl⟩)

theorem cell_view {o : Orb} (ho : orbOK o = true) {m : Int} (h1 : -10 ≤ m) (h2 : m ≤ 1000010) : atP o (min 1000000 (max 0 m)) (min 1000000 (max 0 m) - m) = some (cellAt o m) := by
  have e : min 1000000 (max 0 m) - (min 1000000 (max 0 m) - m) = m := by omega
  have h3 : (inB (min 1000000 (max 0 m)) 0 1000000 && inB (min 1000000 (max 0 m) - m) (-10) 10 && orbOK o) = true := by
    rw [ho, Bool.and_true, Bool.and_eq_true, inB_iff, inB_iff]
    omega
  rw [atP, if_pos h3, e]
  rfl
theorem trackP_succ (o : Orb) (m : Int) (k : Nat) : trackP o m (k + 1) = trackP o m k ++ [cellAt o (m + k)] := by simp [trackP, List.range_succ]
theorem sats_at {l : List St} (h : satsOK l = true) : l.length ≤ 24 ∧ ∀ x ∈ l, satOK x = true := by
  simp only [satsOK, Bool.and_eq_true, decide_eq_true_eq] at h
  refine ⟨h.1, ?_⟩
  have : ∀ (l : List St) (p : Option St), listOK satOK (fun x => x.id) p l = true → ∀ x ∈ l, satOK x = true := by
    intro l
    induction l with
    | nil => intro p _ x hx; cases hx
    | cons y r ih =>
      intro p hp x hx
      simp only [listOK, Bool.and_eq_true] at hp
      rcases List.mem_cons.1 hx with rfl | hx
      · exact hp.1.1
      · exact ih _ hp.2 x hx
  exact this l none h.2
theorem stns_at {l : List Stn} (h : stnsOK l = true) : l.length ≤ 12 ∧ ∀ x ∈ l, stnOK x = true := by
  simp only [stnsOK, Bool.and_eq_true, decide_eq_true_eq] at h
  refine ⟨h.1, ?_⟩
  have : ∀ (l : List Stn) (p : Option Stn), listOK stnOK (fun x => x.id) p l = true → ∀ x ∈ l, stnOK x = true := by
    intro l
    induction l with
    | nil => intro p _ x hx; cases hx
    | cons y r ih =>
      intro p hp x hx
      simp only [listOK, Bool.and_eq_true] at hp
      rcases List.mem_cons.1 hx with rfl | hx
      · exact hp.1.1
      · exact ih _ hp.2 x hx
  exact this l none h.2
theorem sat_orb {x : St} (h : satOK x = true) : orbOK x.orbit = true ∧ 0 ≤ x.orbit.slack ∧ x.orbit.slack ≤ 10 := by
  simp only [satOK, Bool.and_eq_true] at h
  have h1 : orbOK x.orbit = true := by simp only [h]
  refine ⟨h1, ?_⟩
  simp only [orbOK, Bool.and_eq_true, inB_iff] at h1
  exact h1.2

/-- A whole struct is loaded from a row of cells, inside a fence. -/
theorem wpListIn_load_st {F : Fence} {n : Nat} {P : Program} {ops : Array Oper} {rest : List Oper} {op : Oper} {a : Act} {w : World} {Q : Exit → Act → World → Prop} (hgd : op.guard = none) (ty : TypeId) (x : Operand) (ho : op.op = .load ty x)
    (b o : Nat) (hx : a.eval x = .pointer (some ⟨b, o, none⟩)) (X : Array Value) (cs : List Value) (hX : cs.toArray = X) (d : TypeDesc) (hc : w.rangeAt b o cs)
    (hu : P.underlying ty = some d) (hd : d.isRow = true) (hi : (P.info? ty).map (·.size) = some cs.length)
    (h : wpListIn F n P ops Q rest (a.put op.dst (.agg X)) w) : wpListIn F n P ops Q (op :: rest) a w := by
  subst hX
  refine wpListIn_plain hgd fun K hK => ?_
  unfold Oper.wpIn
  refine ⟨?_, ?_⟩
  · simp [Oper.about, ho]
  · rw [Oper.semAt_plain F _ _ (by rw [ho]; intro c hc'; cases hc')]
    unfold execOp
    simp only [ho, hx, Instr.loadAt, Instr.sureAddr, Sem.run_bind, Sem.run_pure, Result.andThen_ok, run_loadVar_mid w b o ty cs d hc hu hd hi]
    exact hK _ _ h
/-- A whole struct is stored into a variable that was just made, inside a fence. -/
theorem wpListIn_store_new {F : Fence} {n : Nat} {P : Program} {ops : Array Oper} {rest : List Oper} {op : Oper} {a : Act} {w : World} {Q : Exit → Act → World → Prop} (hgd : op.guard = none) (ty : TypeId) (x y : Operand) (ho : op.op = .store ty x y)
    (zs X : Array Value) (hx : a.eval x = .pointer (some ⟨w.heap.size, 0, none⟩)) (hy : a.eval y = .agg X) (hi : (P.info? ty).map (·.size) = some X.size) (hz : zs.size = X.size) (h1 : X.all (·.oneCell') = true)
    (h : wpListIn F n P ops Q rest (a.put op.dst undef) (w.alloc (.cells X ty))) : wpListIn F n P ops Q (op :: rest) a (w.alloc (.cells zs ty)) := by
  refine wpListIn_plain hgd fun K hK => ?_
  unfold Oper.wpIn
  refine ⟨?_, ?_⟩
  · simp [Oper.about, ho]
  · rw [Oper.semAt_plain F _ _ (by rw [ho]; intro c hc'; cases hc')]
    unfold execOp
    simp only [ho, hx, hy, Instr.storeAt, Instr.sureAddr, Sem.run_bind, Sem.run_pure, Result.andThen_ok, run_storeVar_row (P := P) (w.alloc (.cells zs ty)) w.heap.size ty ty zs X (heap_alloc_new w _) hi hz h1, setRow_new]
    exact hK _ _ h

end Go.Proofs.Ytlmpmhfbjblhnaa
