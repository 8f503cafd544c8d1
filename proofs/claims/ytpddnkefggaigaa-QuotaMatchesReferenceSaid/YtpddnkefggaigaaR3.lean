/- The reference: owed. -/
import Derived.Test.YtpddnkefggaigaaR2
import Derived.Test.YtpddnkefggaigaaP2
namespace Go.Proofs.Ytpddnkefggaigaa
open Go.RowKit

def insB (f t : Int) (x : Loan) : Bool := decide (f < x.fr) || (x.fr == f && decide (t < x.to))
def eqB (f t : Int) (x : Loan) : Bool := x.fr == f && x.to == t
/-- One round of the reference's loop. -/
def owedStep (f t u : Int) (s : List Loan × Bool) (x : Loan) : List Loan × Bool :=
  (if (if eqB f t x then x.units + u else x.units) = 0 then (if !s.2 && insB f t x then s.1 ++ [⟨f, t, u⟩] else s.1)
    else (if !s.2 && insB f t x then s.1 ++ [⟨f, t, u⟩] else s.1) ++ [⟨x.fr, x.to, if eqB f t x then x.units + u else x.units⟩],
    s.2 || insB f t x || eqB f t x)
def owedF (ls : List Loan) (f t u : Int) (k : Nat) : List Loan × Bool := (ls.take k).foldl (owedStep f t u) ([], false)
def owedR (ls : List Loan) (f t u : Int) : List Loan := if (owedF ls f t u ls.length).2 then (owedF ls f t u ls.length).1 else (owedF ls f t u ls.length).1 ++ [⟨f, t, u⟩]
theorem owedF_step (ls : List Loan) (f t u : Int) (k : Nat) (h : k < ls.length) : owedF ls f t u (k + 1) = owedStep f t u (owedF ls f t u k) ls[k] := by
  unfold owedF
  rw [List.take_succ_eq_append_getElem h, List.foldl_append]
  rfl
theorem owedStep_len (f t u : Int) (s : List Loan × Bool) (x : Loan) : (owedStep f t u s x).1.length ≤ s.1.length + 2 := by
  unfold owedStep
  have hl : (if (!s.2 && insB f t x) = true then s.1 ++ [(⟨f, t, u⟩ : Loan)] else s.1).length ≤ s.1.length + 1 := by split <;> simp
  generalize (if (!s.2 && insB f t x) = true then s.1 ++ [(⟨f, t, u⟩ : Loan)] else s.1) = l1 at hl ⊢
  generalize (if eqB f t x = true then x.units + u else x.units) = y
  show (if y = 0 then l1 else l1 ++ _).length ≤ _
  by_cases hy : y = 0
  · rw [if_pos hy]; omega
  · rw [if_neg hy, List.length_append]; simp; omega
theorem owedF_len (ls : List Loan) (f t u : Int) (k : Nat) (h : k ≤ ls.length) : (owedF ls f t u k).1.length ≤ 2 * k := by
  induction k with
  | zero => simp [owedF]
  | succ k ih =>
    rw [owedF_step ls f t u k (by omega)]
    have := owedStep_len f t u (owedF ls f t u k) ls[k]
    have := ih (by omega)
    omega

theorem flat_snoc (out : List Loan) (x : Loan) : (out ++ [x]).flatMap loanCells = out.flatMap loanCells ++ loanCells x := by simp [List.flatMap_append]
theorem reads_one {W : World} {g : Nat} {x : Loan} {t : TypeId} (h : Blk W g t #[I64 x.fr, I64 x.to, I64 x.units]) : Reads W W.heap.size 3 (some ⟨g, 0, none⟩) 1 (loanCells x) := by
  refine ⟨rfl, fun _ => ⟨g, 0, rfl, h.lt, fun j u hu => ?_⟩⟩
  rw [Nat.zero_add, h.cell]
  simpa [loanCells] using hu
theorem loan_one (x : Loan) : ∀ u ∈ loanCells x, u.oneCell' = true := by
  intro u hu
  simp [loanCells] at hu
  rcases hu with rfl | rfl | rfl <;> rfl
/-- A row of loans of one's own. -/
def OutRow (W : World) (base : Nat) (v : Value) (l : List Loan) : Prop := W.ownsRow base 28 3 v l.length (l.flatMap loanCells)
theorem OutRow.ext {W W' : World} {base : Nat} {v : Value} {l : List Loan} (h : OutRow W base v l) (hx : Ext W W') : OutRow W' base v l := own_ext h hx
theorem OutRow.lt {W : World} {base : Nat} {v : Value} {l : List Loan} (h : OutRow W base v l) : ∀ k, v.ownBlock = some k → base ≤ k ∧ k < W.heap.size := fun k hk => World.ownsRow.lt h k hk
theorem owed_app {W : World} {ops : Array Oper} {rest : List Oper} {o : Oper} {a : Act} {Q : Exit → Act → World → Prop} (hgd : o.guard = none) (s y : Operand)
    (ho : o.op = .call { callee := .builtin .append, args := #[s, y], argTypes := #[24, 24] })
    (base : Nat) (v : Value) (out : List Loan) (hs : a.eval s = v) (hown : OutRow W base v out) (x : Loan) (g : Nat) (hy : a.eval y = .slice (some ⟨g, 0, none⟩) 1 1) (jb : Blk W g 28 #[I64 x.fr, I64 x.to, I64 x.units])
    (hle : out.length ≤ 2199023255553) (hbase : base ≤ W.heap.size)
    (h : ∀ v' w', OutRow w' base v' (out ++ [x]) → W.grownBy w' v.ownBlock → (v'.ownBlock = v.ownBlock ∨ v'.ownBlock = some W.heap.size) → wpList Try.prog ops Q rest (a.put o.dst v') w') : wpList Try.prog ops Q (o :: rest) a W := by
  obtain ⟨i0, hi, hz0, hz1, hz2⟩ := info_parts infoLoan
  refine wpList_append_any _ hgd s y 24 ho base 28 i0 (.agg #[.int .i64 0, .int .i64 0, .int .i64 0]) 3 24 Try.underlying24 hi hz0 hz1 hz2 rfl (by decide) v out.length _ hs hown W.heap.size _ 1 1 _ hy (reads_one jb) (loan_one x) (by unfold maxLen; omega) (by omega) hbase ?_
  intro v' w' h1 h2 h3
  refine h v' w' ?_ h2 h3
  unfold OutRow
  rw [flat_snoc, List.length_append]
  exact h1

set_option maxHeartbeats 4000000 in
theorem owed_any (s1 s2 s3 s4 : Sl) (ls : List Loan) (f t u : Int) (w : World) (h : RL w w.heap.size s3 ls) (hu : ∀ x ∈ ls, 1 ≤ x.units ∧ x.units ≤ 1000000) (hb1 : -1000000 ≤ u) (hb2 : u ≤ 1000000) :
    Calls Try.prog 66 #[poolV s1 s2 s3 s4, .int .i64 f, .int .i64 t, .int .i64 u] w fun e w' => ∃ t3 : Sl, e = .returned (poolV s1 s2 t3 s4) ∧ Ext w w' ∧ w'.ownsRow w.heap.size 28 3 t3.v t3.n ((owedR ls f t u).flatMap loanCells) ∧ t3.n ≤ 2 * s3.n + 1 := by
  obtain ⟨A1, n1, c1⟩ := s1; obtain ⟨A2, n2, c2⟩ := s2; obtain ⟨A3, n3, c3⟩ := s3; obtain ⟨A4, n4, c4⟩ := s4
  have hn3 : n3 ≤ 1099511627776 := h.le
  have hl3 : ls.length = n3 := h.len
  have HL3 := Lib.hid hl3
  have HU := Lib.hid hu
  clear hl3 hu
  show Calls Try.prog 66 #[.agg #[.slice A1 n1 c1, .slice A2 n2 c2, .slice A3 n3 c3, .slice A4 n4 c4], .int .i64 f, .int .i64 t, .int .i64 u] w _
  generalize hQ : (fun (e : Ending) (w' : World) => ∃ t3 : Sl, e = .returned (poolV ⟨A1, n1, c1⟩ ⟨A2, n2, c2⟩ t3 ⟨A4, n4, c4⟩) ∧ Ext w w' ∧ w'.ownsRow w.heap.size 28 3 t3.v t3.n ((owedR ls f t u).flatMap loanCells) ∧ t3.n ≤ 2 * n3 + 1) = QQ
  have HQ := Lib.hid hQ
  clear hQ
  go_enter Try.func66, Try.ntmps66
  go_wp2_with fail
  generalize hW : ((w.alloc _).alloc _) = W
  have hBW : Below w.heap.size w W := by subst hW; exact (by repeat (first | exact Below.refl _ _ | assumption | refine Below.drew ?_ | refine below_drewN ?_ _ | refine bl_alloc ?_ _ | refine Below.setCell ?_ (by first | (simp; done) | omega | (simp; omega)) _ | refine bl_then ?_ (by assumption)))
  have hzW : w.heap.size + 2 ≤ W.heap.size := by subst hW; simp
  have jp : Blk W w.heap.size 26 #[.slice A1 n1 c1, .slice A2 n2 c2, .slice A3 n3 c3, .slice A4 n4 c4] := by subst hW; exact (Blk.new_at _ _ rfl).alloc _
  have jr : Blk W (w.heap.size + 1) 26 nil4 := by subst hW; exact Blk.new_at _ _ (by simp)
  clear hW
  have h3 := h.below hBW
  clear h
  go_loopw [9, 10, 11] (fun o d i wr => ∃ (k : Nat) (out : List Loan) (dn : Bool), k ≤ n3 ∧ i = .int .i64 k ∧ d = .bool dn ∧ Hid (owedF ls f t u k = (out, dn)) ∧ OutRow wr (w.heap.size + 2) o out ∧ Below (w.heap.size + 2) W wr) (fun _ _ i _ => n3 - (intOf i).toNat)
  case atStart => exact ⟨0, [], false, Nat.zero_le _, rfl, rfl, rfl, World.ownsRow_nil _ _ _ _, Below.refl _ _⟩
  case round =>
    obtain ⟨k, out, dn, hk, rfl, rfl, HO, hown, hB⟩ := hrel
    have hcb : wr.cell? ⟨w.heap.size, 2, none⟩ = some (.slice A3 n3 c3) := (hB.cell (p := ⟨w.heap.size, 2, none⟩) (by simp)).trans (jp.cell 2)
    have hzr : w.heap.size + 2 ≤ wr.heap.size := by have := hB.size; omega
    have hol : out.length ≤ 2 * k := by have := owedF_len ls f t u k (by have := HL3.out; omega); rw [HO.out] at this; exact this
    by_cases hlt : k < n3
    · obtain ⟨b, o, hz, hA, hb, hc0, hc1, hc2⟩ := (h3.below (hB.mono (by omega))).at_ hlt
      have hA : A3 = some ⟨b, o, none⟩ := hA
      subst hA
      have hst := owedF_step ls f t u k hz
      rw [HO.out] at hst
      have hxu := HU.out ls[k] (List.getElem_mem _)
      generalize ls[k] = x at hc0 hc1 hc2 hst hxu
      obtain ⟨xf, xt, xu⟩ := x
      have hx1 : 1 ≤ xu := hxu.1
      have hx2 : xu ≤ 1000000 := hxu.2
      have Hx0 : Hid (¬ xu = 0) := (by omega : ¬ xu = 0)
      have hxn : (xu != 0) = true := by simpa using Hx0.out
      dsimp only at hc0 hc1 hc2
      have HS := Lib.hid hst
      have HOW := Lib.hid hown
      clear hst hxu hown
      -- ARMS
      cases dn
      · cases d1 : decide (f < xf)
        · cases d2 : xf == f
          · go_wp2_with (at_builtin; refine owed_app rfl _ _ rfl (w.heap.size + 2) _ (out) rfl (OutRow.ext HOW.out (by repeat (first | exact Below.refl _ _ | assumption | refine Below.drew ?_ | refine below_drewN ?_ _ | refine bl_alloc ?_ _ | refine Below.setCell ?_ (by first | (simp; done) | omega | (simp; omega)) _ | refine bl_then ?_ (by assumption)))) ⟨xf, xt, xu⟩ _ rfl (Blk.new_at _ _ (by simp)) (by first | omega | (simp; omega)) (by first | omega | (simp; omega)) ?_)
            intro v' w' hown' hg hat
            have hB1 : Below (w.heap.size + 2) W w' := Below.grown (B := w.heap.size + 2) (w := (wr.alloc _).alloc _) (by repeat (first | exact Below.refl _ _ | assumption | refine Below.drew ?_ | refine below_drewN ?_ _ | refine Below.alloc ?_ (by first | omega | (simp; omega)) _ | refine Below.setCell ?_ (by first | (simp; done) | omega | (simp; omega)) _ | refine Below.trans ?_ (Below.mono (by assumption) (by first | omega | (simp; omega))))) hg (by simp; omega) (fun q hq => (HOW.out.lt q hq).1)
            clear hg hat
            go_wp2
            go_roundw
            case rel => exact ⟨k + 1, out ++ [(⟨xf, xt, xu⟩ : Loan)], false, by omega, by go_num, rfl, HS.out.trans (by simp [owedStep, insB, eqB, d1, d2, Hx0.out]), hown', hB1⟩
            case measure => simp [intOf]; omega
          · cases d3 : decide (t < xt)
            · cases d4 : xt == t
              · go_wp2_with (at_builtin; refine owed_app rfl _ _ rfl (w.heap.size + 2) _ (out) rfl (OutRow.ext HOW.out (by repeat (first | exact Below.refl _ _ | assumption | refine Below.drew ?_ | refine below_drewN ?_ _ | refine bl_alloc ?_ _ | refine Below.setCell ?_ (by first | (simp; done) | omega | (simp; omega)) _ | refine bl_then ?_ (by assumption)))) ⟨xf, xt, xu⟩ _ rfl (Blk.new_at _ _ (by simp)) (by first | omega | (simp; omega)) (by first | omega | (simp; omega)) ?_)
                intro v' w' hown' hg hat
                have hB1 : Below (w.heap.size + 2) W w' := Below.grown (B := w.heap.size + 2) (w := (wr.alloc _).alloc _) (by repeat (first | exact Below.refl _ _ | assumption | refine Below.drew ?_ | refine below_drewN ?_ _ | refine Below.alloc ?_ (by first | omega | (simp; omega)) _ | refine Below.setCell ?_ (by first | (simp; done) | omega | (simp; omega)) _ | refine Below.trans ?_ (Below.mono (by assumption) (by first | omega | (simp; omega))))) hg (by simp; omega) (fun q hq => (HOW.out.lt q hq).1)
                clear hg hat
                go_wp2
                go_roundw
                case rel => exact ⟨k + 1, out ++ [(⟨xf, xt, xu⟩ : Loan)], false, by omega, by go_num, rfl, HS.out.trans (by simp [owedStep, insB, eqB, d1, d2, d3, d4, Hx0.out]), hown', hB1⟩
                case measure => simp [intOf]; omega
              · cases dz : xu + u != 0
                · have Hz : Hid (xu + u = 0) := Lib.hid (by simpa using dz)
                  go_wp2
                  go_roundw
                  case rel => exact ⟨k + 1, out, true, by omega, by go_num, rfl, HS.out.trans (by simp [owedStep, insB, eqB, d1, d2, d3, d4, Hz.out]), OutRow.ext HOW.out (by repeat (first | exact Below.refl _ _ | assumption | refine Below.drew ?_ | refine below_drewN ?_ _ | refine bl_alloc ?_ _ | refine Below.setCell ?_ (by first | (simp; done) | omega | (simp; omega)) _ | refine bl_then ?_ (by assumption))), (by repeat (first | exact Below.refl _ _ | assumption | refine Below.drew ?_ | refine below_drewN ?_ _ | refine Below.alloc ?_ (by first | omega | (simp; omega)) _ | refine Below.setCell ?_ (by first | (simp; done) | omega | (simp; omega)) _ | refine Below.trans ?_ (Below.mono (by assumption) (by first | omega | (simp; omega)))))⟩
                  case measure => simp [intOf]; omega
                · have Hz : Hid (¬ xu + u = 0) := Lib.hid (by simpa using dz)
                  go_wp2_with (at_builtin; refine owed_app rfl _ _ rfl (w.heap.size + 2) _ (out) rfl (OutRow.ext HOW.out (by repeat (first | exact Below.refl _ _ | assumption | refine Below.drew ?_ | refine below_drewN ?_ _ | refine bl_alloc ?_ _ | refine Below.setCell ?_ (by first | (simp; done) | omega | (simp; omega)) _ | refine bl_then ?_ (by assumption)))) ⟨xf, xt, xu + u⟩ _ rfl (Blk.new_at _ _ (by simp)) (by first | omega | (simp; omega)) (by first | omega | (simp; omega)) ?_)
                  intro v' w' hown' hg hat
                  have hB1 : Below (w.heap.size + 2) W w' := Below.grown (B := w.heap.size + 2) (w := (wr.alloc _).alloc _) (by repeat (first | exact Below.refl _ _ | assumption | refine Below.drew ?_ | refine below_drewN ?_ _ | refine Below.alloc ?_ (by first | omega | (simp; omega)) _ | refine Below.setCell ?_ (by first | (simp; done) | omega | (simp; omega)) _ | refine Below.trans ?_ (Below.mono (by assumption) (by first | omega | (simp; omega))))) hg (by simp; omega) (fun q hq => (HOW.out.lt q hq).1)
                  clear hg hat
                  go_wp2
                  go_roundw
                  case rel => exact ⟨k + 1, out ++ [(⟨xf, xt, xu + u⟩ : Loan)], true, by omega, by go_num, rfl, HS.out.trans (by simp [owedStep, insB, eqB, d1, d2, d3, d4, Hz.out]), hown', hB1⟩
                  case measure => simp [intOf]; omega
            · have d4 : (xt == t) = false := (by simp at d3 ⊢; omega)
              go_wp2_with (at_builtin; refine owed_app rfl _ _ rfl (w.heap.size + 2) _ (out) rfl (OutRow.ext HOW.out (by repeat (first | exact Below.refl _ _ | assumption | refine Below.drew ?_ | refine below_drewN ?_ _ | refine bl_alloc ?_ _ | refine Below.setCell ?_ (by first | (simp; done) | omega | (simp; omega)) _ | refine bl_then ?_ (by assumption)))) ⟨f, t, u⟩ _ rfl (Blk.new_at _ _ (by simp)) (by first | omega | (simp; omega)) (by first | omega | (simp; omega)) ?_)
              intro v1 w1 hown1 hg1 hat1
              have hB1 : Below (w.heap.size + 2) W w1 := Below.grown (B := w.heap.size + 2) (w := (wr.alloc _).alloc _) (by repeat (first | exact Below.refl _ _ | assumption | refine Below.drew ?_ | refine below_drewN ?_ _ | refine Below.alloc ?_ (by first | omega | (simp; omega)) _ | refine Below.setCell ?_ (by first | (simp; done) | omega | (simp; omega)) _ | refine Below.trans ?_ (Below.mono (by assumption) (by first | omega | (simp; omega))))) hg1 (by simp; omega) (fun q hq => (HOW.out.lt q hq).1)
              have jx : Blk w1 wr.heap.size 28 #[.int .i64 xf, .int .i64 xt, .int .i64 xu] := ((Blk.new_at _ _ rfl).alloc _).grown hg1 (fun hq => by have := (HOW.out.lt _ hq.symm).2; omega)
              have hz1 : w.heap.size + 2 ≤ w1.heap.size := by have := hB1.size; omega
              have hj0 := jx.cell 0
              have hj1 := jx.cell 1
              have hj2 := jx.cell 2
              clear hg1 hat1
              have H1 := Lib.hid hown1
              clear hown1
              go_wp2_with (at_builtin; refine owed_app rfl _ _ rfl (w.heap.size + 2) _ (out ++ [(⟨f, t, u⟩ : Loan)]) rfl (OutRow.ext H1.out (by repeat (first | exact Below.refl _ _ | assumption | refine Below.drew ?_ | refine below_drewN ?_ _ | refine bl_alloc ?_ _ | refine Below.setCell ?_ (by first | (simp; done) | omega | (simp; omega)) _ | refine bl_then ?_ (by assumption)))) ⟨xf, xt, xu⟩ _ rfl (Blk.new_at _ _ (by simp)) (by first | omega | (simp; omega)) (by first | omega | (simp; omega)) ?_)
              intro v' w' hown' hg hat
              have hB2 : Below (w.heap.size + 2) W w' := Below.grown (B := w.heap.size + 2) (w := w1.alloc _) (by repeat (first | exact Below.refl _ _ | assumption | refine Below.drew ?_ | refine below_drewN ?_ _ | refine Below.alloc ?_ (by first | omega | (simp; omega)) _ | refine Below.setCell ?_ (by first | (simp; done) | omega | (simp; omega)) _ | refine Below.trans ?_ (Below.mono (by assumption) (by first | omega | (simp; omega))))) hg (by simp; omega) (fun q hq => (H1.out.lt q hq).1)
              clear hg hat
              go_wp2
              go_roundw
              case rel => exact ⟨k + 1, out ++ [(⟨f, t, u⟩ : Loan), (⟨xf, xt, xu⟩ : Loan)], true, by omega, by go_num, rfl, HS.out.trans (by simp [owedStep, insB, eqB, d1, d2, d3, d4, Hx0.out]), hown', hB2⟩
              case measure => simp [intOf]; omega
        · have d2 : (xf == f) = false := (by simp at d1 ⊢; omega)
          go_wp2_with (at_builtin; refine owed_app rfl _ _ rfl (w.heap.size + 2) _ (out) rfl (OutRow.ext HOW.out (by repeat (first | exact Below.refl _ _ | assumption | refine Below.drew ?_ | refine below_drewN ?_ _ | refine bl_alloc ?_ _ | refine Below.setCell ?_ (by first | (simp; done) | omega | (simp; omega)) _ | refine bl_then ?_ (by assumption)))) ⟨f, t, u⟩ _ rfl (Blk.new_at _ _ (by simp)) (by first | omega | (simp; omega)) (by first | omega | (simp; omega)) ?_)
          intro v1 w1 hown1 hg1 hat1
          have hB1 : Below (w.heap.size + 2) W w1 := Below.grown (B := w.heap.size + 2) (w := (wr.alloc _).alloc _) (by repeat (first | exact Below.refl _ _ | assumption | refine Below.drew ?_ | refine below_drewN ?_ _ | refine Below.alloc ?_ (by first | omega | (simp; omega)) _ | refine Below.setCell ?_ (by first | (simp; done) | omega | (simp; omega)) _ | refine Below.trans ?_ (Below.mono (by assumption) (by first | omega | (simp; omega))))) hg1 (by simp; omega) (fun q hq => (HOW.out.lt q hq).1)
          have jx : Blk w1 wr.heap.size 28 #[.int .i64 xf, .int .i64 xt, .int .i64 xu] := ((Blk.new_at _ _ rfl).alloc _).grown hg1 (fun hq => by have := (HOW.out.lt _ hq.symm).2; omega)
          have hz1 : w.heap.size + 2 ≤ w1.heap.size := by have := hB1.size; omega
          have hj0 := jx.cell 0
          have hj1 := jx.cell 1
          have hj2 := jx.cell 2
          clear hg1 hat1
          have H1 := Lib.hid hown1
          clear hown1
          go_wp2_with (at_builtin; refine owed_app rfl _ _ rfl (w.heap.size + 2) _ (out ++ [(⟨f, t, u⟩ : Loan)]) rfl (OutRow.ext H1.out (by repeat (first | exact Below.refl _ _ | assumption | refine Below.drew ?_ | refine below_drewN ?_ _ | refine bl_alloc ?_ _ | refine Below.setCell ?_ (by first | (simp; done) | omega | (simp; omega)) _ | refine bl_then ?_ (by assumption)))) ⟨xf, xt, xu⟩ _ rfl (Blk.new_at _ _ (by simp)) (by first | omega | (simp; omega)) (by first | omega | (simp; omega)) ?_)
          intro v' w' hown' hg hat
          have hB2 : Below (w.heap.size + 2) W w' := Below.grown (B := w.heap.size + 2) (w := w1.alloc _) (by repeat (first | exact Below.refl _ _ | assumption | refine Below.drew ?_ | refine below_drewN ?_ _ | refine Below.alloc ?_ (by first | omega | (simp; omega)) _ | refine Below.setCell ?_ (by first | (simp; done) | omega | (simp; omega)) _ | refine Below.trans ?_ (Below.mono (by assumption) (by first | omega | (simp; omega))))) hg (by simp; omega) (fun q hq => (H1.out.lt q hq).1)
          clear hg hat
          go_wp2
          go_roundw
          case rel => exact ⟨k + 1, out ++ [(⟨f, t, u⟩ : Loan), (⟨xf, xt, xu⟩ : Loan)], true, by omega, by go_num, rfl, HS.out.trans (by simp [owedStep, insB, eqB, d1, d2, Hx0.out]), hown', hB2⟩
          case measure => simp [intOf]; omega
      · cases d2 : xf == f
        · go_wp2_with (at_builtin; refine owed_app rfl _ _ rfl (w.heap.size + 2) _ (out) rfl (OutRow.ext HOW.out (by repeat (first | exact Below.refl _ _ | assumption | refine Below.drew ?_ | refine below_drewN ?_ _ | refine bl_alloc ?_ _ | refine Below.setCell ?_ (by first | (simp; done) | omega | (simp; omega)) _ | refine bl_then ?_ (by assumption)))) ⟨xf, xt, xu⟩ _ rfl (Blk.new_at _ _ (by simp)) (by first | omega | (simp; omega)) (by first | omega | (simp; omega)) ?_)
          intro v' w' hown' hg hat
          have hB1 : Below (w.heap.size + 2) W w' := Below.grown (B := w.heap.size + 2) (w := (wr.alloc _).alloc _) (by repeat (first | exact Below.refl _ _ | assumption | refine Below.drew ?_ | refine below_drewN ?_ _ | refine Below.alloc ?_ (by first | omega | (simp; omega)) _ | refine Below.setCell ?_ (by first | (simp; done) | omega | (simp; omega)) _ | refine Below.trans ?_ (Below.mono (by assumption) (by first | omega | (simp; omega))))) hg (by simp; omega) (fun q hq => (HOW.out.lt q hq).1)
          clear hg hat
          go_wp2
          go_roundw
          case rel => exact ⟨k + 1, out ++ [(⟨xf, xt, xu⟩ : Loan)], true, by omega, by go_num, rfl, HS.out.trans (by simp [owedStep, insB, eqB, d2, Hx0.out]), hown', hB1⟩
          case measure => simp [intOf]; omega
        · cases d4 : xt == t
          · go_wp2_with (at_builtin; refine owed_app rfl _ _ rfl (w.heap.size + 2) _ (out) rfl (OutRow.ext HOW.out (by repeat (first | exact Below.refl _ _ | assumption | refine Below.drew ?_ | refine below_drewN ?_ _ | refine bl_alloc ?_ _ | refine Below.setCell ?_ (by first | (simp; done) | omega | (simp; omega)) _ | refine bl_then ?_ (by assumption)))) ⟨xf, xt, xu⟩ _ rfl (Blk.new_at _ _ (by simp)) (by first | omega | (simp; omega)) (by first | omega | (simp; omega)) ?_)
            intro v' w' hown' hg hat
            have hB1 : Below (w.heap.size + 2) W w' := Below.grown (B := w.heap.size + 2) (w := (wr.alloc _).alloc _) (by repeat (first | exact Below.refl _ _ | assumption | refine Below.drew ?_ | refine below_drewN ?_ _ | refine Below.alloc ?_ (by first | omega | (simp; omega)) _ | refine Below.setCell ?_ (by first | (simp; done) | omega | (simp; omega)) _ | refine Below.trans ?_ (Below.mono (by assumption) (by first | omega | (simp; omega))))) hg (by simp; omega) (fun q hq => (HOW.out.lt q hq).1)
            clear hg hat
            go_wp2
            go_roundw
            case rel => exact ⟨k + 1, out ++ [(⟨xf, xt, xu⟩ : Loan)], true, by omega, by go_num, rfl, HS.out.trans (by simp [owedStep, insB, eqB, d2, d4, Hx0.out]), hown', hB1⟩
            case measure => simp [intOf]; omega
          · cases dz : xu + u != 0
            · have Hz : Hid (xu + u = 0) := Lib.hid (by simpa using dz)
              go_wp2
              go_roundw
              case rel => exact ⟨k + 1, out, true, by omega, by go_num, rfl, HS.out.trans (by simp [owedStep, insB, eqB, d2, d4, Hz.out]), OutRow.ext HOW.out (by repeat (first | exact Below.refl _ _ | assumption | refine Below.drew ?_ | refine below_drewN ?_ _ | refine bl_alloc ?_ _ | refine Below.setCell ?_ (by first | (simp; done) | omega | (simp; omega)) _ | refine bl_then ?_ (by assumption))), (by repeat (first | exact Below.refl _ _ | assumption | refine Below.drew ?_ | refine below_drewN ?_ _ | refine Below.alloc ?_ (by first | omega | (simp; omega)) _ | refine Below.setCell ?_ (by first | (simp; done) | omega | (simp; omega)) _ | refine Below.trans ?_ (Below.mono (by assumption) (by first | omega | (simp; omega)))))⟩
              case measure => simp [intOf]; omega
            · have Hz : Hid (¬ xu + u = 0) := Lib.hid (by simpa using dz)
              go_wp2_with (at_builtin; refine owed_app rfl _ _ rfl (w.heap.size + 2) _ (out) rfl (OutRow.ext HOW.out (by repeat (first | exact Below.refl _ _ | assumption | refine Below.drew ?_ | refine below_drewN ?_ _ | refine bl_alloc ?_ _ | refine Below.setCell ?_ (by first | (simp; done) | omega | (simp; omega)) _ | refine bl_then ?_ (by assumption)))) ⟨xf, xt, xu + u⟩ _ rfl (Blk.new_at _ _ (by simp)) (by first | omega | (simp; omega)) (by first | omega | (simp; omega)) ?_)
              intro v' w' hown' hg hat
              have hB1 : Below (w.heap.size + 2) W w' := Below.grown (B := w.heap.size + 2) (w := (wr.alloc _).alloc _) (by repeat (first | exact Below.refl _ _ | assumption | refine Below.drew ?_ | refine below_drewN ?_ _ | refine Below.alloc ?_ (by first | omega | (simp; omega)) _ | refine Below.setCell ?_ (by first | (simp; done) | omega | (simp; omega)) _ | refine Below.trans ?_ (Below.mono (by assumption) (by first | omega | (simp; omega))))) hg (by simp; omega) (fun q hq => (HOW.out.lt q hq).1)
              clear hg hat
              go_wp2
              go_roundw
              case rel => exact ⟨k + 1, out ++ [(⟨xf, xt, xu + u⟩ : Loan)], true, by omega, by go_num, rfl, HS.out.trans (by simp [owedStep, insB, eqB, d2, d4, Hz.out]), hown', hB1⟩
              case measure => simp [intOf]; omega
      -- END
    · obtain rfl : n3 = k := by omega
      have HOW := Lib.hid hown
      clear hown
      have hll := HL3.out
      rw [← hll] at HO
      clear hll
      cases dn
      -- FIN
      · go_wp2_with (at_builtin; refine owed_app rfl _ _ rfl (w.heap.size + 2) _ (out) rfl (OutRow.ext HOW.out (by repeat (first | exact Below.refl _ _ | assumption | refine Below.drew ?_ | refine below_drewN ?_ _ | refine bl_alloc ?_ _ | refine Below.setCell ?_ (by first | (simp; done) | omega | (simp; omega)) _ | refine bl_then ?_ (by assumption)))) ⟨f, t, u⟩ _ rfl (Blk.new_at _ _ (by simp)) (by first | omega | (simp; omega)) (by first | omega | (simp; omega)) ?_)
        intro v' w' hown' hg hat
        have hB1 : Below (w.heap.size + 2) W w' := Below.grown (B := w.heap.size + 2) (w := wr.alloc _) (by repeat (first | exact Below.refl _ _ | assumption | refine Below.drew ?_ | refine below_drewN ?_ _ | refine Below.alloc ?_ (by first | omega | (simp; omega)) _ | refine Below.setCell ?_ (by first | (simp; done) | omega | (simp; omega)) _ | refine Below.trans ?_ (Below.mono (by assumption) (by first | omega | (simp; omega))))) hg (by simp; omega) (fun q hq => (HOW.out.lt q hq).1)
        clear hg hat
        obtain ⟨AA, cc, hv, _, _⟩ := own_slice hown'
        subst hv
        have hlen : (out ++ [(⟨f, t, u⟩ : Loan)]).length ≤ 2 * n3 + 1 := (by first | omega | (simp; omega))
        have hne : ∀ q, q < w.heap.size + 2 → (Value.slice AA (out ++ [(⟨f, t, u⟩ : Loan)]).length cc).ownBlock ≠ some q := fun q hq he => absurd (OutRow.lt hown' q he).1 (by omega)
        have HE : Hid (owedR ls f t u = out ++ [(⟨f, t, u⟩ : Loan)]) := Lib.hid (by unfold owedR; rw [HO.out]; rfl)
        have HW : Hid (w'.ownsRow (w.heap.size + 2) 28 3 (.slice AA (out ++ [(⟨f, t, u⟩ : Loan)]).length cc) (out ++ [(⟨f, t, u⟩ : Loan)]).length ((out ++ [(⟨f, t, u⟩ : Loan)]).flatMap loanCells)) := Lib.hid hown'
        clear hown'
        have jp2 := jp.below hB1 (show w.heap.size < w.heap.size + 2 by omega)
        have jr2 := jr.below hB1 (show w.heap.size + 1 < w.heap.size + 2 by omega)
        have hp0 := jp2.cell 0
        have hp1 := jp2.cell 1
        have hp2 := jp2.cell 2
        have hp3 := jp2.cell 3
        have hg2 := jp2.frozen 2
        have hc0 := jr2.cell 0
        have hc1 := jr2.cell 1
        have hc2 := jr2.cell 2
        have hc3 := jr2.cell 3
        have hf0 := jr2.frozen 0
        have hf1 := jr2.frozen 1
        have hf2 := jr2.frozen 2
        have hf3 := jr2.frozen 3
        have hBf : Below w.heap.size w w' := hBW.trans (hB1.mono (by omega))
        generalize (out ++ [(⟨f, t, u⟩ : Loan)]).length = nn at hlen hne HW ⊢
        go_wp2
        generalize hW4 : (((((w'.setCell ⟨w.heap.size, 2, none⟩ _).setCell ⟨w.heap.size + 1, 0, none⟩ _).setCell ⟨w.heap.size + 1, 1, none⟩ _).setCell ⟨w.heap.size + 1, 2, none⟩ _).setCell ⟨w.heap.size + 1, 3, none⟩ _) = w4
        have j4 : Blk w4 (w.heap.size + 1) 26 #[.slice A1 n1 c1, .slice A2 n2 c2, .slice AA nn cc, .slice A4 n4 c4] := by subst hW4; exact (jr2.far (p := ⟨w.heap.size, 2, none⟩) (show w.heap.size + 1 ≠ w.heap.size by omega) _).set4 _ _ _ _
        have hB4 : Below w.heap.size w w4 := by subst hW4; exact below_set4 (hBf.setCell (p := ⟨w.heap.size, 2, none⟩) (Nat.le_refl _) _) (by omega) _ _ _ _
        have ho4 : w4.ownsRow w.heap.size 28 3 (.slice AA nn cc) nn ((owedR ls f t u).flatMap loanCells) := by
          subst hW4
          rw [HE.out]
          exact own_base (own_set4 (own_set HW.out (p := ⟨w.heap.size, 2, none⟩) (hne w.heap.size (by omega)) _) (hne (w.heap.size + 1) (by omega)) _ _ _ _) (by omega)
        clear hc0 hc1 hc2 hc3
        have hc0 := j4.cell 0
        have hc1 := j4.cell 1
        have hc2 := j4.cell 2
        have hc3 := j4.cell 3
        exact bodyPost_ret (v := poolV ⟨A1, n1, c1⟩ ⟨A2, n2, c2⟩ ⟨AA, nn, cc⟩ ⟨A4, n4, c4⟩) (by simp [results, Try.results66, go_sem, hc0, hc1, hc2, hc3]) rfl (by rw [← HQ.out]; exact ⟨⟨AA, nn, cc⟩, rfl, hB4, ho4, hlen⟩)
      · have hown := HOW.out
        clear HOW
        obtain ⟨AA, cc, hv, _, _⟩ := own_slice hown
        subst hv
        have hlen : (out).length ≤ 2 * n3 + 1 := (by first | omega | (simp; omega))
        have hne : ∀ q, q < w.heap.size + 2 → (Value.slice AA (out).length cc).ownBlock ≠ some q := fun q hq he => absurd (OutRow.lt hown q he).1 (by omega)
        have HE : Hid (owedR ls f t u = out) := Lib.hid (by unfold owedR; rw [HO.out]; rfl)
        have HW : Hid (wr.ownsRow (w.heap.size + 2) 28 3 (.slice AA (out).length cc) (out).length ((out).flatMap loanCells)) := Lib.hid hown
        clear hown
        have jp2 := jp.below hB (show w.heap.size < w.heap.size + 2 by omega)
        have jr2 := jr.below hB (show w.heap.size + 1 < w.heap.size + 2 by omega)
        have hp0 := jp2.cell 0
        have hp1 := jp2.cell 1
        have hp2 := jp2.cell 2
        have hp3 := jp2.cell 3
        have hg2 := jp2.frozen 2
        have hc0 := jr2.cell 0
        have hc1 := jr2.cell 1
        have hc2 := jr2.cell 2
        have hc3 := jr2.cell 3
        have hf0 := jr2.frozen 0
        have hf1 := jr2.frozen 1
        have hf2 := jr2.frozen 2
        have hf3 := jr2.frozen 3
        have hBf : Below w.heap.size w wr := hBW.trans (hB.mono (by omega))
        generalize (out).length = nn at hlen hne HW ⊢
        go_wp2
        generalize hW4 : (((((wr.setCell ⟨w.heap.size, 2, none⟩ _).setCell ⟨w.heap.size + 1, 0, none⟩ _).setCell ⟨w.heap.size + 1, 1, none⟩ _).setCell ⟨w.heap.size + 1, 2, none⟩ _).setCell ⟨w.heap.size + 1, 3, none⟩ _) = w4
        have j4 : Blk w4 (w.heap.size + 1) 26 #[.slice A1 n1 c1, .slice A2 n2 c2, .slice AA nn cc, .slice A4 n4 c4] := by subst hW4; exact (jr2.far (p := ⟨w.heap.size, 2, none⟩) (show w.heap.size + 1 ≠ w.heap.size by omega) _).set4 _ _ _ _
        have hB4 : Below w.heap.size w w4 := by subst hW4; exact below_set4 (hBf.setCell (p := ⟨w.heap.size, 2, none⟩) (Nat.le_refl _) _) (by omega) _ _ _ _
        have ho4 : w4.ownsRow w.heap.size 28 3 (.slice AA nn cc) nn ((owedR ls f t u).flatMap loanCells) := by
          subst hW4
          rw [HE.out]
          exact own_base (own_set4 (own_set HW.out (p := ⟨w.heap.size, 2, none⟩) (hne w.heap.size (by omega)) _) (hne (w.heap.size + 1) (by omega)) _ _ _ _) (by omega)
        clear hc0 hc1 hc2 hc3
        have hc0 := j4.cell 0
        have hc1 := j4.cell 1
        have hc2 := j4.cell 2
        have hc3 := j4.cell 3
        exact bodyPost_ret (v := poolV ⟨A1, n1, c1⟩ ⟨A2, n2, c2⟩ ⟨AA, nn, cc⟩ ⟨A4, n4, c4⟩) (by simp [results, Try.results66, go_sem, hc0, hc1, hc2, hc3]) rfl (by rw [← HQ.out]; exact ⟨⟨AA, nn, cc⟩, rfl, hB4, ho4, hlen⟩)
      -- STOP

end Go.Proofs.Ytpddnkefggaigaa
