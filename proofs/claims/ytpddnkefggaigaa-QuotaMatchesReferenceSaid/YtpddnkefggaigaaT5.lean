/- Deeds of the reference: rows of deeds of ones own. -/
import Derived.Test.YtpddnkefggaigaaT4
namespace Go.Proofs.Ytpddnkefggaigaa
open Go.RowKit

theorem infoDeed : (Try.prog.info? 30).map (fun i => (i.zero, i.size, i.bytes)) = some (some (.agg #[.int .i64 0, .int .i64 0, .int .i64 0, .int .i64 0, .int .i64 0]), 5, 40) := by kernel_rfl
def DeedRow (W : World) (base : Nat) (v : Value) (l : List Deed) : Prop := W.ownsRow base 30 5 v l.length (l.flatMap deedCells)
theorem DeedRow.ext {W W' : World} {base : Nat} {v : Value} {l : List Deed} (h : DeedRow W base v l) (hx : Ext W W') : DeedRow W' base v l := own_ext h hx
theorem DeedRow.lt {W : World} {base : Nat} {v : Value} {l : List Deed} (h : DeedRow W base v l) : ∀ k, v.ownBlock = some k → base ≤ k ∧ k < W.heap.size := fun k hk => World.ownsRow.lt h k hk
theorem reads_deed {W : World} {g : Nat} {x : Deed} {t : TypeId} (h : Blk W g t #[I64 x.kind, I64 x.fr, I64 x.tt, I64 x.units, I64 x.cents]) : Reads W W.heap.size 5 (some ⟨g, 0, none⟩) 1 (deedCells x) := by
  refine ⟨rfl, fun _ => ⟨g, 0, rfl, h.lt, fun j u hu => ?_⟩⟩
  rw [Nat.zero_add, h.cell]
  simpa [deedCells] using hu
theorem deed_one (x : Deed) : ∀ u ∈ deedCells x, u.oneCell' = true := by
  intro u hu
  simp [deedCells] at hu
  rcases hu with rfl | rfl | rfl | rfl | rfl <;> rfl
theorem deed_app {W : World} {ops : Array Oper} {rest : List Oper} {o : Oper} {a : Act} {Q : Exit → Act → World → Prop} (hgd : o.guard = none) (s y : Operand)
    (ho : o.op = .call { callee := .builtin .append, args := #[s, y], argTypes := #[34, 34] })
    (base : Nat) (v : Value) (out : List Deed) (hs : a.eval s = v) (hown : DeedRow W base v out) (x : Deed) (g : Nat) (hy : a.eval y = .slice (some ⟨g, 0, none⟩) 1 1) (jb : Blk W g 30 #[I64 x.kind, I64 x.fr, I64 x.tt, I64 x.units, I64 x.cents])
    (hle : out.length ≤ 1000) (hbase : base ≤ W.heap.size)
    (h : ∀ v' w', DeedRow w' base v' (out ++ [x]) → W.grownBy w' v.ownBlock → (v'.ownBlock = v.ownBlock ∨ v'.ownBlock = some W.heap.size) → wpList Try.prog ops Q rest (a.put o.dst v') w') : wpList Try.prog ops Q (o :: rest) a W := by
  obtain ⟨i0, hi, hz0, hz1, hz2⟩ := info_parts infoDeed
  refine wpList_append_any _ hgd s y 34 ho base 30 i0 (.agg #[.int .i64 0, .int .i64 0, .int .i64 0, .int .i64 0, .int .i64 0]) 5 40 Try.underlying34 hi hz0 hz1 hz2 rfl (by decide) v out.length _ hs hown W.heap.size _ 1 1 _ hy (reads_deed jb) (deed_one x) (by unfold maxLen; omega) (by omega) hbase ?_
  intro v' w' h1 h2 h3
  refine h v' w' ?_ h2 h3
  unfold DeedRow
  rw [List.flatMap_append, List.length_append]
  simpa using h1

end Go.Proofs.Ytpddnkefggaigaa
