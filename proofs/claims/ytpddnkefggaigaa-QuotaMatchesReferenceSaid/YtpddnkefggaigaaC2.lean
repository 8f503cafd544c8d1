/- quota.change: the way on which nothing is done. -/
import Derived.Test.YtpddnkefggaigaaC1
import Derived.Test.YtpddnkefggaigaaB1
import Derived.Test.YtpddnkefggaigaaD1
namespace Go.Proofs.Ytpddnkefggaigaa
open Go.RowKit

abbrev loanV (x : Loan) : Value := .agg #[.int .i64 x.fr, .int .i64 x.to, .int .i64 x.units]
abbrev nil4 : Array Value := #[.slice none 0 0, .slice none 0 0, .slice none 0 0, .slice none 0 0]

set_option maxHeartbeats 1000000 in
theorem change_refuse (s1 s2 s3 s4 : Sl) (p : Pool) (ok : Bool) (x : Loan) (fv : Value) (mv : List AM) (w : World) (h : PoolR w w.heap.size s1 s2 s3 s4 p) (hno : ¬ (ok = true ∧ validB p = true)) (fn : Nat) (caps : Array Value) (hfv : fv = .func (.func fn) #[] caps) :
    Calls Try.prog 52 #[poolV s1 s2 s3 s4, .bool ok, loanV x, fv] w (PoolRet w (changeP p ok x mv)) := by
  have hcp : changeP p ok x mv = none := by unfold changeP; rw [if_neg hno]
  have hv := valid_any s1 s2 s3 s4 p
  obtain ⟨A1, n1, c1⟩ := s1; obtain ⟨A2, n2, c2⟩ := s2; obtain ⟨A3, n3, c3⟩ := s3; obtain ⟨A4, n4, c4⟩ := s4
  subst hfv
  show Calls Try.prog 52 #[.agg #[.slice A1 n1 c1, .slice A2 n2 c2, .slice A3 n3 c3, .slice A4 n4 c4], .bool ok, .agg #[.int .i64 x.fr, .int .i64 x.to, .int .i64 x.units], .func (.func fn) #[] caps] w _
  rw [hcp]
  have HV := Lib.hid hv
  clear hv hcp
  cases ok
  · go_enter Try.func52, Try.ntmps52
    go_wp2
    exact bodyPost_ret (v := .tuple #[nilV, .int .i64 250]) (by simp [results, Try.results52, go_sem, nilV]) rfl ⟨_, rfl, (by repeat (first | exact Below.refl _ _ | assumption | refine Below.drew ?_ | refine below_drewN ?_ _ | refine bl_alloc ?_ _ | refine Below.setCell ?_ (by first | (simp; done) | omega | (simp; omega)) _ | refine bl_then ?_ (by assumption))), .inl ⟨rfl, rfl⟩⟩
  · have hvf : validB p = false := by
      cases hh : validB p
      · rfl
      · exact absurd ⟨rfl, hh⟩ hno
    go_enter Try.func52, Try.ntmps52
    go_wp2_with fail
    generalize hW : (((w.alloc (.cells #[.slice A1 n1 c1, .slice A2 n2 c2, .slice A3 n3 c3, .slice A4 n4 c4] 26)).alloc (.cells #[.int .i64 x.fr, .int .i64 x.to, .int .i64 x.units] 28)).alloc (.cells #[.slice none 0 0, .slice none 0 0, .slice none 0 0, .slice none 0 0] 26)) = W
    have hBW : Below w.heap.size w W := by subst hW; exact (by repeat (first | exact Below.refl _ _ | assumption | refine Below.drew ?_ | refine below_drewN ?_ _ | refine bl_alloc ?_ _ | refine Below.setCell ?_ (by first | (simp; done) | omega | (simp; omega)) _ | refine bl_then ?_ (by assumption)))
    have hzW : W.heap.size = w.heap.size + 3 := by subst hW; simp
    have jr : Blk W (w.heap.size + 2) 26 nil4 := by subst hW; exact Blk.new_at _ _ (by simp)
    clear hW
    refine (HV.out W ((h.below hBW).more hBW.size)).mono ?_
    rintro e w1 ⟨rfl, hb1⟩
    rw [hvf]
    have jr1 := jr.below hb1 (by omega)
    have hB1 : Below w.heap.size w w1 := hBW.trans (hb1.mono (by omega))
    have hc0 := jr1.cell 0
    have hc1 := jr1.cell 1
    have hc2 := jr1.cell 2
    have hc3 := jr1.cell 3
    have hf0 := jr1.frozen 0
    have hf1 := jr1.frozen 1
    have hf2 := jr1.frozen 2
    have hf3 := jr1.frozen 3
    have hz1 : w.heap.size + 2 < w1.heap.size := jr1.lt
    clear hzW hvf
    go_wp2
    generalize hW4 : ((((w1.setCell ⟨w.heap.size + 2, 0, none⟩ _).setCell ⟨w.heap.size + 2, 1, none⟩ _).setCell ⟨w.heap.size + 2, 2, none⟩ _).setCell ⟨w.heap.size + 2, 3, none⟩ _) = w4
    have j4 : Blk w4 (w.heap.size + 2) 26 nil4 := by subst hW4; exact jr1.set4 _ _ _ _
    have hB4 : Below w.heap.size w w4 := by subst hW4; exact below_set4 hB1 (by omega) _ _ _ _
    clear hc0 hc1 hc2 hc3
    have hc0 := j4.cell 0
    have hc1 := j4.cell 1
    have hc2 := j4.cell 2
    have hc3 := j4.cell 3
    exact bodyPost_ret (v := .tuple #[nilV, .int .i64 250]) (by simp [results, Try.results52, go_sem, hc0, hc1, hc2, hc3, nilV]) rfl ⟨_, rfl, hB4, .inl ⟨rfl, rfl⟩⟩

end Go.Proofs.Ytpddnkefggaigaa
