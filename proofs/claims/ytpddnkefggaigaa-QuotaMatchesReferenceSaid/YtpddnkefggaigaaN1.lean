/- quota.New by its contract. -/
import Derived.Test.YtpddnkefggaigaaS5
import Derived.Test.YtpddnkefggaigaaV2
import Derived.Test.YtpddnkefggaigaaReg
namespace Go.Proofs.Ytpddnkefggaigaa
open Go.RowKit

def newP (units : List Int) : Option Pool := let q : Pool := ⟨units, List.replicate 16 0, [], List.replicate 16 0⟩; if validB q then some q else none
def nilV : Value := .agg #[.slice none 0 0, .slice none 0 0, .slice none 0 0, .slice none 0 0]
theorem RI_of_own {w : World} {base : Nat} {A : Option Addr} {n c : Nat} {zs : List Int} (h : w.ownsRow base 3 1 (.slice A n c) n (zs.map I64)) (hn : n ≤ 1099511627776) : RI w w.heap.size ⟨A, n, c⟩ zs := by
  refine ⟨Reads.of_own h, ?_, ?_, hn⟩
  all_goals
    obtain ⟨A', c', hv, h1, h2⟩ := own_slice h
    injection hv with e1 e2 e3
    subst e3
    first | exact h1 | exact h2
theorem RL_of_own {w : World} {base : Nat} {A : Option Addr} {n c : Nat} {ls : List Loan} (h : w.ownsRow base 28 3 (.slice A n c) n (ls.flatMap loanCells)) (hn : n ≤ 1099511627776) : RL w w.heap.size ⟨A, n, c⟩ ls := by
  refine ⟨Reads.of_own h, ?_, ?_, hn⟩
  all_goals
    obtain ⟨A', c', hv, h1, h2⟩ := own_slice h
    injection hv with e1 e2 e3
    subst e3
    first | exact h1 | exact h2
theorem RL_nil (w : World) (B : Nat) : RL w B ⟨none, 0, 0⟩ [] := ⟨Reads.none_, Nat.le_refl _, Nat.zero_le _, Nat.zero_le _⟩
theorem RI_nil (w : World) (B : Nat) : RI w B ⟨none, 0, 0⟩ [] := ⟨Reads.none_, Nat.le_refl _, Nat.zero_le _, Nat.zero_le _⟩
theorem RI_of_blk {w : World} {g : Nat} {t : TypeId} {zs : List Int} {n : Nat} (h : Blk w g t (zs.map I64).toArray) (hn : zs.length = n) (hle : n ≤ 1099511627776) : RI w w.heap.size ⟨some ⟨g, 0, none⟩, n, n⟩ zs := by
  refine ⟨⟨by simp [hn], fun _ => ⟨g, 0, rfl, h.lt, fun j u hu => ?_⟩⟩, Nat.le_refl _, by show n ≤ maxLen; unfold maxLen; omega, hle⟩
  rw [Nat.zero_add, h.cell]
  simpa using hu
/-- A pool in memory of the call's own. -/
structure PoolOwn (W : World) (base : Nat) (s1 s2 s3 s4 : Sl) (q : Pool) : Prop where
  o1 : W.ownsRow base 3 1 s1.v s1.n (q.has.map I64)
  o2 : W.ownsRow base 3 1 s2.v s2.n (q.used.map I64)
  o3 : W.ownsRow base 28 3 s3.v s3.n (q.loans.flatMap loanCells)
  o4 : W.ownsRow base 3 1 s4.v s4.n (q.cents.map I64)
  n1 : s1.n ≤ 1099511627776
  n2 : s2.n ≤ 1099511627776
  n3 : s3.n ≤ 1099511627776
  n4 : s4.n ≤ 1099511627776
section
variable {W W' : World} {base base' : Nat} {s1 s2 s3 s4 : Sl} {q : Pool}
theorem PoolOwn.pool (h : PoolOwn W base s1 s2 s3 s4 q) : PoolR W W.heap.size s1 s2 s3 s4 q := ⟨RI_of_own h.o1 h.n1, RI_of_own h.o2 h.n2, RL_of_own h.o3 h.n3, RI_of_own h.o4 h.n4⟩
theorem PoolOwn.ext (h : PoolOwn W base s1 s2 s3 s4 q) (hx : Ext W W') : PoolOwn W' base s1 s2 s3 s4 q := ⟨own_ext h.o1 hx, own_ext h.o2 hx, own_ext h.o3 hx, own_ext h.o4 hx, h.n1, h.n2, h.n3, h.n4⟩
theorem PoolOwn.down (h : PoolOwn W base s1 s2 s3 s4 q) (hb : base' ≤ base) : PoolOwn W base' s1 s2 s3 s4 q := ⟨own_base h.o1 hb, own_base h.o2 hb, own_base h.o3 hb, own_base h.o4 hb, h.n1, h.n2, h.n3, h.n4⟩
theorem PoolOwn.set4 (h : PoolOwn W base s1 s2 s3 s4 q) {g : Nat} {cs : Array Value} (hb : Blk W g 26 cs) (a b c d : Value) : PoolOwn ((((W.setCell ⟨g, 0, none⟩ a).setCell ⟨g, 1, none⟩ b).setCell ⟨g, 2, none⟩ c).setCell ⟨g, 3, none⟩ d) base s1 s2 s3 s4 q :=
  ⟨own_set4 h.o1 (own_blk_ne h.o1 hb (by decide)) _ _ _ _, own_set4 h.o2 (own_blk_ne h.o2 hb (by decide)) _ _ _ _, own_set4 h.o3 (own_blk_ne h.o3 hb (by decide)) _ _ _ _, own_set4 h.o4 (own_blk_ne h.o4 hb (by decide)) _ _ _ _, h.n1, h.n2, h.n3, h.n4⟩
end
theorem own_of_blk {w : World} {base g n : Nat} {zs : List Int} (h : Blk w g 3 (zs.map I64).toArray) (hb : base ≤ g) (hn : zs.length = n) (hle : n ≤ 1099511627776) : w.ownsRow base 3 1 (.slice (some ⟨g, 0, none⟩) n n) n (zs.map I64) :=
  ⟨by simp [hn], .inr ⟨g, n, _, rfl, hb, h, Nat.le_refl _, by unfold maxLen; omega, by simp [hn], by simp [← hn, List.take_of_length_le]⟩⟩
/-- What a function returns that returns a pool or refuses. -/
def PoolGot (r : Option Pool) (base : Nat) (v : Value) (W : World) : Prop :=
  (r = none ∧ v = .tuple #[nilV, .int .i64 250]) ∨ ∃ q s1 s2 s3 s4, r = some q ∧ v = .tuple #[poolV s1 s2 s3 s4, .int .i64 0] ∧ PoolOwn W base s1 s2 s3 s4 q
theorem PoolGot.ext {r : Option Pool} {base : Nat} {v : Value} {W W' : World} (h : PoolGot r base v W) (hx : Ext W W') : PoolGot r base v W' := by
  rcases h with h | ⟨q, s1, s2, s3, s4, h1, h2, h3⟩
  · exact .inl h
  · exact .inr ⟨q, s1, s2, s3, s4, h1, h2, h3.ext hx⟩
def PoolRet (w : World) (r : Option Pool) (e : Ending) (w' : World) : Prop := ∃ v, e = .returned v ∧ Ext w w' ∧ PoolGot r w.heap.size v w'

def zero16 : Array Value := (List.replicate 16 (I64 0)).toArray

set_option maxHeartbeats 1000000 in
theorem new_any (A : Option Addr) (n c : Nat) (zs : List Int) (w : World) (h : RI w w.heap.size ⟨A, n, c⟩ zs) :
    Calls Try.prog 21 #[.slice A n c] w (PoolRet w (newP zs)) := by
  have hmk : ∀ w, (Instr.makeSlice 22 (.int .i64 16) (.int .i64 16)).run Try.prog w = .ok (.slice (some ⟨w.heap.size, 0, none⟩) 16 16) (w.alloc (.cells zero16 3)) := fun _ => by kernel_rfl
  go_enter Try.func21, Try.ntmps21
  go_wp2_with fail
  refine wp_region_obl 6 (fun i _ v w1 => match i with
    | 0 => v = .slice A n c
    | 1 => w1.ownsRow w.heap.size 3 1 v n (zs.map I64)
    | 2 => ∃ g, v = .slice (some ⟨g, 0, none⟩) 16 16 ∧ w.heap.size < g ∧ Blk w1 g 3 zero16
    | 3 => ∃ g, v = .slice (some ⟨g, 0, none⟩) 16 16 ∧ w.heap.size < g ∧ Blk w1 g 3 zero16
    | 4 => ∃ A' c' g g', v = .agg #[.slice A' n c', .slice (some ⟨g, 0, none⟩) 16 16, .slice none 0 0, .slice (some ⟨g', 0, none⟩) 16 16] ∧ w1.ownsRow w.heap.size 3 1 (.slice A' n c') n (zs.map I64) ∧ w.heap.size < g ∧ Blk w1 g 3 zero16 ∧ w.heap.size < g' ∧ Blk w1 g' 3 zero16
    | _ => ∃ g, v = .pointer (some ⟨g, 0, none⟩) ∧ w.heap.size < g ∧ Blk w1 g 26 #[.slice none 0 0, .slice none 0 0, .slice none 0 0, .slice none 0 0]) (by kernel_rfl) (by kernel_rfl) ?st (fun _ _ _ _ _ _ _ h => h) ?ob ?fin
  case st =>
    intro i _ v w1 w2 hi hr hx
    match i, hr with
    | 0, hr => exact hr
    | 1, hr => exact own_ext hr hx
    | 2, ⟨g, h1, h2, h3⟩ => exact ⟨g, h1, h2, h3.ext hx⟩
    | 3, ⟨g, h1, h2, h3⟩ => exact ⟨g, h1, h2, h3.ext hx⟩
    | 4, ⟨A', c', g, g', h1, h2, h3, h4, h5, h6⟩ => exact ⟨A', c', g, g', h1, own_ext h2 hx, h3, h4.ext hx, h5, h6.ext hx⟩
    | (k + 5), ⟨g, h1, h2, h3⟩ => exact ⟨g, h1, h2, h3.ext hx⟩
  case ob =>
    refine ⟨?_, ?_, ?_, ?_, ?_, ?_, trivial⟩
    · intro vals w1 hx hd _
      simp only [Lf]
      go_wp2
      exact ⟨rfl, Ext.refl _, rfl⟩
    · intro vals w1 hx hd _
      have h0 : vals 0 = .slice A n c := hd 0 (by decide)
      simp only [Lf, dstAt, Act.put, List.getElem?_toArray, List.getElem?_cons_zero, Option.bind_some, List.setIfInBounds_toArray, List.set_cons_zero, List.set_cons_succ]
      rw [h0]
      clear h0 hd
      have hsz : w.heap.size + 1 ≤ w1.heap.size := by have := Below.size hx; simp at this; omega
      go_wp2_with fail
      refine (clone_int A n c zs w1 ?_).mono ?_
      · exact (h.below (((Below.refl _ w).alloc (Nat.le_refl _) _).drew.trans (Below.mono hx (by simp)))).more (by omega)
      rintro e w2 ⟨v, rfl, hown, hb⟩
      go_wp2
      exact ⟨rfl, hb, own_base hown (by omega)⟩
    · intro vals w1 hx hd _
      have hsz : w.heap.size + 1 ≤ w1.heap.size := by have := Below.size hx; simp at this; omega
      simp only [Lf, dstAt, Act.put, List.getElem?_toArray, List.getElem?_cons_zero, List.getElem?_cons_succ, Option.bind_some, List.setIfInBounds_toArray, List.set_cons_zero, List.set_cons_succ]
      clear hd
      go_wp2
      exact ⟨rfl, (by repeat (first | exact Below.refl _ _ | assumption | refine Below.drew ?_ | refine below_drewN ?_ _ | refine bl_alloc ?_ _ | refine Below.setCell ?_ (by first | (simp; done) | omega | (simp; omega)) _ | refine bl_then ?_ (by assumption))), _, rfl, by omega, Blk.new _ _ _⟩
    · intro vals w1 hx hd _
      have hsz : w.heap.size + 1 ≤ w1.heap.size := by have := Below.size hx; simp at this; omega
      simp only [Lf, dstAt, Act.put, List.getElem?_toArray, List.getElem?_cons_zero, List.getElem?_cons_succ, Option.bind_some, List.setIfInBounds_toArray, List.set_cons_zero, List.set_cons_succ]
      clear hd
      go_wp2
      exact ⟨rfl, (by repeat (first | exact Below.refl _ _ | assumption | refine Below.drew ?_ | refine below_drewN ?_ _ | refine bl_alloc ?_ _ | refine Below.setCell ?_ (by first | (simp; done) | omega | (simp; omega)) _ | refine bl_then ?_ (by assumption))), _, rfl, by omega, Blk.new _ _ _⟩
    · intro vals w1 hx hd _
      have h1 : w1.ownsRow w.heap.size 3 1 (vals 1) n (zs.map I64) := hd 1 (by decide)
      obtain ⟨g, h2, k2, j2⟩ : ∃ g, vals 2 = .slice (some ⟨g, 0, none⟩) 16 16 ∧ w.heap.size < g ∧ Blk w1 g 3 zero16 := hd 2 (by decide)
      obtain ⟨g', h3, k3, j3⟩ : ∃ g, vals 3 = .slice (some ⟨g, 0, none⟩) 16 16 ∧ w.heap.size < g ∧ Blk w1 g 3 zero16 := hd 3 (by decide)
      obtain ⟨A', c', hv, _, _⟩ := own_slice h1
      rw [hv] at h1
      clear hd
      simp only [Lf, dstAt, Act.put, List.getElem?_toArray, List.getElem?_cons_zero, List.getElem?_cons_succ, Option.bind_some, List.setIfInBounds_toArray, List.set_cons_zero, List.set_cons_succ]
      rw [hv, h2, h3]
      clear hv h2 h3
      go_wp2
      exact ⟨rfl, Ext.refl _, A', c', g, g', rfl, h1, k2, j2, k3, j3⟩
    · intro vals w1 hx hd _
      have hsz : w.heap.size + 1 ≤ w1.heap.size := by have := Below.size hx; simp at this; omega
      simp only [Lf, dstAt, Act.put, List.getElem?_toArray, List.getElem?_cons_zero, List.getElem?_cons_succ, Option.bind_some, List.setIfInBounds_toArray, List.set_cons_zero, List.set_cons_succ]
      clear hd
      go_wp2
      exact ⟨rfl, (by repeat (first | exact Below.refl _ _ | assumption | refine Below.drew ?_ | refine below_drewN ?_ _ | refine bl_alloc ?_ _ | refine Below.setCell ?_ (by first | (simp; done) | omega | (simp; omega)) _ | refine bl_then ?_ (by assumption))), _, rfl, by omega, Blk.new _ _ _⟩
  case fin =>
    intro vals w1 hx hf
    obtain ⟨A', c', g, g', h4, hown, k2, j2, k3, j3⟩ := hf 4 (by omega)
    obtain ⟨gq, h5, k5, j5⟩ := hf 5 (by omega)
    clear hf
    refine tail1 6 _ (by kernel_rfl) (by kernel_rfl) rfl ?_
    simp only [Lf, dstAt, Act.put, List.getElem?_toArray, List.getElem?_cons_zero, List.getElem?_cons_succ, Option.bind_some, List.setIfInBounds_toArray, List.set_cons_zero, List.set_cons_succ]
    rw [h4, h5]
    clear h4 h5
    have hq := fun o => j5.cell o
    have hfz := fun o => j5.frozen o
    have hsz : w.heap.size + 1 ≤ w1.heap.size := by have := Below.size hx; simp at this; omega
    have hB1 : Below w.heap.size w w1 := ((Below.refl _ w).alloc (Nat.le_refl _) _).drew.trans (Below.mono hx (by simp))
    go_wp2_with fail
    generalize hW2 : ((((w1.setCell ⟨gq, 0, none⟩ _).setCell ⟨gq, 1, none⟩ _).setCell ⟨gq, 2, none⟩ _).setCell ⟨gq, 3, none⟩ _) = w2
    obtain ⟨hq2, ho2, jg, jg', hB2, jr⟩ : Blk w2 gq 26 #[.slice A' n c', .slice (some ⟨g, 0, none⟩) 16 16, .slice none 0 0, .slice (some ⟨g', 0, none⟩) 16 16] ∧ w2.ownsRow w.heap.size 3 1 (.slice A' n c') n (zs.map I64) ∧ Blk w2 g 3 zero16 ∧ Blk w2 g' 3 zero16 ∧ Below w.heap.size w w2 ∧ Blk w2 w.heap.size 26 #[.slice none 0 0, .slice none 0 0, .slice none 0 0, .slice none 0 0] := by
      subst hW2
      have hne := own_blk_ne hown j5 (by decide)
      have hne1 : g ≠ gq := j2.ne_ j5 (by decide)
      have hne2 : g' ≠ gq := j3.ne_ j5 (by decide)
      refine ⟨((((j5.set_ 0 _).set_ 1 _).set_ 2 _).set_ 3 _), own_set (own_set (own_set (own_set hown hne _) hne _) hne _) hne _, ?_, ?_, ?_, ?_⟩
      · exact ((((j2.far (p := ⟨gq, 0, none⟩) hne1 _).far (p := ⟨gq, 1, none⟩) hne1 _).far (p := ⟨gq, 2, none⟩) hne1 _).far (p := ⟨gq, 3, none⟩) hne1 _)
      · exact ((((j3.far (p := ⟨gq, 0, none⟩) hne2 _).far (p := ⟨gq, 1, none⟩) hne2 _).far (p := ⟨gq, 2, none⟩) hne2 _).far (p := ⟨gq, 3, none⟩) hne2 _)
      · exact ((((hB1.setCell (p := ⟨gq, 0, none⟩) (by simp; omega) _).setCell (p := ⟨gq, 1, none⟩) (by simp; omega) _).setCell (p := ⟨gq, 2, none⟩) (by simp; omega) _).setCell (p := ⟨gq, 3, none⟩) (by simp; omega) _)
      · have hr : w.heap.size ≠ gq := by omega
        have jr := Blk.ext ((Blk.new w 26 #[.slice none 0 0, .slice none 0 0, .slice none 0 0, .slice none 0 0]).drew) hx
        exact ((((jr.far (p := ⟨gq, 0, none⟩) hr _).far (p := ⟨gq, 1, none⟩) hr _).far (p := ⟨gq, 2, none⟩) hr _).far (p := ⟨gq, 3, none⟩) hr _)
    clear hW2 hown j2 j3 j5 hq hfz hB1
    have hp : PoolR w2 w2.heap.size ⟨A', n, c'⟩ ⟨some ⟨g, 0, none⟩, 16, 16⟩ ⟨none, 0, 0⟩ ⟨some ⟨g', 0, none⟩, 16, 16⟩ ⟨zs, List.replicate 16 0, [], List.replicate 16 0⟩ :=
      ⟨RI_of_own ho2 h.le, RI_of_blk (zs := List.replicate 16 0) jg rfl (by omega), RL_nil _ _, RI_of_blk (zs := List.replicate 16 0) jg' rfl (by omega)⟩
    have hlt : w.heap.size < w2.heap.size := jr.lt
    have hltq : gq < w2.heap.size := hq2.lt
    have hnew : newP zs = if validB ⟨zs, List.replicate 16 0, [], List.replicate 16 0⟩ then some ⟨zs, List.replicate 16 0, [], List.replicate 16 0⟩ else none := rfl
    refine (valid_any ⟨A', n, c'⟩ ⟨some ⟨g, 0, none⟩, 16, 16⟩ ⟨none, 0, 0⟩ ⟨some ⟨g', 0, none⟩, 16, 16⟩ _ w2 hp).mono ?_
    rintro e w3 ⟨rfl, hb3⟩
    have hp3 := hp.next hb3
    have hB3 : Below w.heap.size w w3 := hB2.trans (hb3.mono (by omega))
    have jr3 := jr.below hb3 hlt
    have jq3 := hq2.below hb3 hltq
    cases hv : validB ⟨zs, List.replicate 16 0, [], List.replicate 16 0⟩
    · rw [hv] at hnew
      have HN := Lib.hid hnew
      clear hnew hv hp hp3 hq2 ho2 jg jg' hB2 jr hb3
      have hc0 := jr3.cell 0
      have hc1 := jr3.cell 1
      have hc2 := jr3.cell 2
      have hc3 := jr3.cell 3
      have hf0 := jr3.frozen 0
      have hf1 := jr3.frozen 1
      have hf2 := jr3.frozen 2
      have hf3 := jr3.frozen 3
      go_wp2
      generalize hW4 : ((((w3.setCell ⟨w.heap.size, 0, none⟩ _).setCell ⟨w.heap.size, 1, none⟩ _).setCell ⟨w.heap.size, 2, none⟩ _).setCell ⟨w.heap.size, 3, none⟩ _) = w4
      have j4 : Blk w4 w.heap.size 26 #[.slice none 0 0, .slice none 0 0, .slice none 0 0, .slice none 0 0] := by subst hW4; exact jr3.set4 _ _ _ _
      have hB4 : Below w.heap.size w w4 := by subst hW4; exact below_set4 hB3 (Nat.le_refl _) _ _ _ _
      clear hc0 hc1 hc2 hc3
      have hc0 := j4.cell 0
      have hc1 := j4.cell 1
      have hc2 := j4.cell 2
      have hc3 := j4.cell 3
      exact bodyPost_ret (v := .tuple #[nilV, .int .i64 250]) (by simp [results, Try.results21, go_sem, hc0, hc1, hc2, hc3, nilV]) rfl ⟨_, rfl, hB4, .inl ⟨HN.out, rfl⟩⟩
    · rw [hv] at hnew
      have HN := Lib.hid hnew
      have ho3 := own_ext ho2 hb3
      have jg3 := jg.ext hb3
      have jh3 := jg'.ext hb3
      clear hnew hv hp hp3 hq2 ho2 jg jg' hB2 jr
      have hc0 := jr3.cell 0
      have hc1 := jr3.cell 1
      have hc2 := jr3.cell 2
      have hc3 := jr3.cell 3
      have hf0 := jr3.frozen 0
      have hf1 := jr3.frozen 1
      have hf2 := jr3.frozen 2
      have hf3 := jr3.frozen 3
      have hd0 := jq3.cell 0
      have hd1 := jq3.cell 1
      have hd2 := jq3.cell 2
      have hd3 := jq3.cell 3
      go_wp2
      generalize hW4 : ((((w3.setCell ⟨w.heap.size, 0, none⟩ _).setCell ⟨w.heap.size, 1, none⟩ _).setCell ⟨w.heap.size, 2, none⟩ _).setCell ⟨w.heap.size, 3, none⟩ _) = w4
      have j4 : Blk w4 w.heap.size 26 #[.slice A' n c', .slice (some ⟨g, 0, none⟩) 16 16, .slice none 0 0, .slice (some ⟨g', 0, none⟩) 16 16] := by subst hW4; exact jr3.set4 _ _ _ _
      have hB4 : Below w.heap.size w w4 := by subst hW4; exact below_set4 hB3 (Nat.le_refl _) _ _ _ _
      have hp4 : PoolOwn w4 w.heap.size ⟨A', n, c'⟩ ⟨some ⟨g, 0, none⟩, 16, 16⟩ ⟨none, 0, 0⟩ ⟨some ⟨g', 0, none⟩, 16, 16⟩ ⟨zs, List.replicate 16 0, [], List.replicate 16 0⟩ := by
        subst hW4
        have hp3 : PoolOwn w3 w.heap.size ⟨A', n, c'⟩ ⟨some ⟨g, 0, none⟩, 16, 16⟩ ⟨none, 0, 0⟩ ⟨some ⟨g', 0, none⟩, 16, 16⟩ ⟨zs, List.replicate 16 0, [], List.replicate 16 0⟩ :=
          ⟨ho3, own_of_blk (zs := List.replicate 16 0) jg3 (by omega) rfl (by show 16 ≤ 1099511627776; omega), World.ownsRow_nil _ _ _ _, own_of_blk (zs := List.replicate 16 0) jh3 (by omega) rfl (by show 16 ≤ 1099511627776; omega), h.le, by show 16 ≤ 1099511627776; omega, Nat.zero_le _, by show 16 ≤ 1099511627776; omega⟩
        exact hp3.set4 jr3 _ _ _ _
      clear hc0 hc1 hc2 hc3
      have hc0 := j4.cell 0
      have hc1 := j4.cell 1
      have hc2 := j4.cell 2
      have hc3 := j4.cell 3
      exact bodyPost_ret (v := .tuple #[poolV ⟨A', n, c'⟩ ⟨some ⟨g, 0, none⟩, 16, 16⟩ ⟨none, 0, 0⟩ ⟨some ⟨g', 0, none⟩, 16, 16⟩, .int .i64 0]) (by simp [results, Try.results21, go_sem, hc0, hc1, hc2, hc3]) rfl ⟨_, rfl, hB4, .inr ⟨_, _, _, _, _, HN.out, rfl, hp4⟩⟩

end Go.Proofs.Ytpddnkefggaigaa
