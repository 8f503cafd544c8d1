/- Plain: what Valid checks, turn by turn. -/
import Derived.Test.YtikphbgfcpamgaaP22
import Derived.BigQuiet
import Derived.Test.YtikphbgfcpamgaaP02
namespace Go.Proofs.Ytikphbgfcpamgaa
open Go.RowKit

theorem take_succ_eq {α : Type} {xs ys : List α} {k : Nat} (h : xs.take k = ys.take k) (hx : k < xs.length) (hy : k < ys.length) (he : xs[k] = ys[k]) : xs.take (k + 1) = ys.take (k + 1) := by
  rw [List.take_succ_eq_append_getElem hx, List.take_succ_eq_append_getElem hy, h, he]
theorem ne_of_get {α : Type} {xs ys : List α} {k : Nat} (hx : k < xs.length) (hy : k < ys.length) (h : xs[k] ≠ ys[k]) : xs ≠ ys := fun e => h (by subst e; rfl)
theorem neq_brn (a b : Brn) (w : World) : (binOp .neq 30 (.agg #[.int .i64 a.at_, .int .i64 a.opt, .int .i64 a.slot, .int .i64 a.yes, .int .i64 a.no]) (.agg #[.int .i64 b.at_, .int .i64 b.opt, .int .i64 b.slot, .int .i64 b.yes, .int .i64 b.no])).run Try.prog w = .ok (.bool (!decide (a = b))) w := by
  have h := eq_brn a b w
  rw [run_neq_struct]
  exact (congrArg (fun r => Result.andThen r fun b w' => .ok (Value.bool (!b)) w') h)
set_option maxRecDepth 100000 in
set_option maxHeartbeats 1000000 in
theorem equal_brn (A1 A2 : Option Addr) (n1 n2 c1 c2 : Nat) (xs ys : List Brn) (w : World) (h1 : RA brnCells 5 w w.heap.size A1 n1 c1 xs) (h2 : RA brnCells 5 w w.heap.size A2 n2 c2 ys) :
    Calls Try.prog 44 #[.slice A1 n1 c1, .slice A2 n2 c2] w fun e w' => e = .returned (.bool (decide (xs = ys))) ∧ Ext w w' := by
  have hn1 := h1.le
  have hn2 := h2.le
  have L1 : Hid (xs.length = n1) := h1.len
  have L2 : Hid (ys.length = n2) := h2.len
  have H1 := Lib.hid h1
  have H2 := Lib.hid h2
  clear h1 h2
  by_cases hne : n1 = n2
  · subst hne
    have hd : ((n1 : Int) != (n1 : Int)) = false := by simp
    go_enter Try.func44, Try.ntmps44
    go_wp2
    go_loopw [13] (fun i wr => ∃ k : Nat, k ≤ n1 ∧ i = .int .i64 k ∧ Hid (xs.take k = ys.take k) ∧ Ext w wr) (fun i _ => n1 - (intOf i).toNat)
    case atStart => exact ⟨0, Nat.zero_le _, rfl, rfl, Ext.refl _⟩
    case round =>
      obtain ⟨k, hk, rfl, H, hx⟩ := hrel
      by_cases hlt : k < n1
      · obtain ⟨b, o, hz, hA, _, hc⟩ := (ra_ext H1.out hx).at_ brn_len hlt
        obtain ⟨b2, o2, hz2, hA2, _, hc2⟩ := (ra_ext H2.out hx).at_ brn_len hlt
        have hstep := take_succ_eq (k := k) H.out hz hz2
        have hstop := ne_of_get (k := k) hz hz2
        generalize xs[k] = x at hc hstep hstop
        generalize ys[k] = y at hc2 hstep hstop
        have a0 : wr.cell? ⟨b, o + k * 5, none⟩ = some (.int .i64 x.at_) := hc 0 (by omega)
        have a1 : wr.cell? ⟨b, o + k * 5 + 1, none⟩ = some (.int .i64 x.opt) := hc 1 (by omega)
        have a2 : wr.cell? ⟨b, o + k * 5 + 2, none⟩ = some (.int .i64 x.slot) := hc 2 (by omega)
        have a3 : wr.cell? ⟨b, o + k * 5 + 3, none⟩ = some (.int .i64 x.yes) := hc 3 (by omega)
        have a4 : wr.cell? ⟨b, o + k * 5 + 4, none⟩ = some (.int .i64 x.no) := hc 4 (by omega)
        have b0 : wr.cell? ⟨b2, o2 + k * 5, none⟩ = some (.int .i64 y.at_) := hc2 0 (by omega)
        have b1 : wr.cell? ⟨b2, o2 + k * 5 + 1, none⟩ = some (.int .i64 y.opt) := hc2 1 (by omega)
        have b2_ : wr.cell? ⟨b2, o2 + k * 5 + 2, none⟩ = some (.int .i64 y.slot) := hc2 2 (by omega)
        have b3 : wr.cell? ⟨b2, o2 + k * 5 + 3, none⟩ = some (.int .i64 y.yes) := hc2 3 (by omega)
        have b4 : wr.cell? ⟨b2, o2 + k * 5 + 4, none⟩ = some (.int .i64 y.no) := hc2 4 (by omega)
        have hkz : (k : Int) < (n1 : Int) := by omega
        subst hA hA2
        clear hc hc2 hz hz2
        by_cases hxy : x = y
        · have HS := Lib.hid (hstep hxy)
          clear hstep hstop
          subst hxy
          have he : (!decide (x = x)) = false := by simp
          have hnq := neq_brn
          go_upto_region 6 with (fail)
          go_quiet (fail)
          go_wp2
          go_roundw
          case rel => exact ⟨k + 1, by omega, by go_num, HS, (by repeat (first | exact Below.refl _ _ | assumption | refine Below.drew ?_ | refine below_drewN ?_ _ | refine bl_alloc ?_ _ | refine Below.setCell ?_ (by first | (simp; done) | omega | (simp; omega)) _ | refine bl_then ?_ (by assumption)))⟩
          case measure => simp [intOf]; omega
        · have he : (!decide (x = y)) = true := by simp [hxy]
          have HX := Lib.hid (hstop hxy)
          clear hxy hstep hstop
          have hnq := neq_brn
          go_upto_region 6 with (fail)
          go_quiet (fail)
          go_wp2
          go_ret
          exact ⟨by rw [decide_eq_false HX.out]; rfl, (by repeat (first | exact Below.refl _ _ | assumption | refine Below.drew ?_ | refine below_drewN ?_ _ | refine bl_alloc ?_ _ | refine Below.setCell ?_ (by first | (simp; done) | omega | (simp; omega)) _ | refine bl_then ?_ (by assumption)))⟩
      · have hxy : xs = ys := by
          have := H.out
          rwa [List.take_of_length_le (by rw [L1.out]; omega), List.take_of_length_le (by rw [L2.out]; omega)] at this
        have HXY := Lib.hid hxy
        clear hxy
        go_wp2
        go_ret
        exact ⟨by rw [decide_eq_true HXY.out]; rfl, (by repeat (first | exact Below.refl _ _ | assumption | refine Below.drew ?_ | refine below_drewN ?_ _ | refine bl_alloc ?_ _ | refine Below.setCell ?_ (by first | (simp; done) | omega | (simp; omega)) _ | refine bl_then ?_ (by assumption)))⟩
  · have hd : ((n1 : Int) != (n2 : Int)) = true := by simp; omega
    have hxy : ¬ xs = ys := by
      rintro rfl
      exact hne (L1.out.symm.trans L2.out)
    rw [decide_eq_false hxy]
    clear hxy
    go_enter Try.func44, Try.ntmps44
    go_wp2
    go_ret
    exact ⟨rfl, Ext.refl _⟩
theorem same_any (s1 s2 : Int) (A1 A2 : Option Addr) (n1 n2 c1 c2 : Nat) (xs ys : List Brn) (w : World) (h1 : RA brnCells 5 w w.heap.size A1 n1 c1 xs) (h2 : RA brnCells 5 w w.heap.size A2 n2 c2 ys) :
    Calls Try.prog 20 #[.agg #[.int .i64 s1, .slice A1 n1 c1], .agg #[.int .i64 s2, .slice A2 n2 c2]] w fun e w' => e = .returned (.bool (decide (s1 = s2 ∧ xs = ys))) ∧ Ext w w' := by
  have HE := Lib.hid (fun (W : World) (hx : Ext w W) => equal_brn A1 A2 n1 n2 c1 c2 xs ys W (ra_ext h1 hx) (ra_ext h2 hx))
  clear h1 h2
  by_cases hs : s1 = s2
  · subst hs
    have hd : decide (s1 = s1 ∧ xs = ys) = decide (xs = ys) := by simp
    rw [hd]
    generalize decide (xs = ys) = q at HE ⊢
    have hbe : (s1 == s1) = true := by simp
    clear hd
    go_enter Try.func20, Try.ntmps20
    go_wp2_with fail
    have hx2 : Ext w ((w.alloc (.cells #[.int .i64 s1, .slice A1 n1 c1] 33)).alloc (.cells #[.int .i64 s1, .slice A2 n2 c2] 33)) := (by repeat (first | exact Below.refl _ _ | assumption | refine Below.drew ?_ | refine below_drewN ?_ _ | refine bl_alloc ?_ _ | refine Below.setCell ?_ (by first | (simp; done) | omega | (simp; omega)) _ | refine bl_then ?_ (by assumption)))
    have hc := HE.out _ hx2
    clear HE
    refine hc.mono ?_
    clear hc
    rintro e w3 ⟨rfl, hy⟩
    go_wp2
    go_ret
    exact ⟨rfl, Ext.trans hx2 hy⟩
  · have hd : decide (s1 = s2 ∧ xs = ys) = false := by simp [hs]
    rw [hd]
    have hbe : (s1 == s2) = false := by simpa using hs
    clear HE hd hs
    go_enter Try.func20, Try.ntmps20
    go_wp2
    go_ret
    exact ⟨rfl, (by repeat (first | exact Below.refl _ _ | assumption | refine Below.drew ?_ | refine below_drewN ?_ _ | refine bl_alloc ?_ _ | refine Below.setCell ?_ (by first | (simp; done) | omega | (simp; omega)) _ | refine bl_then ?_ (by assumption)))⟩
end Go.Proofs.Ytikphbgfcpamgaa
namespace Go.Proofs.Ytikphbgfcpamgaa

theorem chk_low {l : List Op} {T : List Brn} : ∀ (r : List Brn) (O : List Nat), chkR l T O r = true → ∀ (j : Nat) (b : Brn), r[j]? = some b → (-1 ≤ b.no ∧ b.no < ((O.length + j : Nat) : Int)) ∧ (-1 ≤ b.yes ∧ b.yes < ((O.length + j : Nat) : Int)) := by
  intro r
  induction r with
  | nil => intro O _ j b h; simp at h
  | cons x r ih =>
    intro O h j b hb
    rw [chkR, Bool.and_eq_true] at h
    cases j with
    | zero =>
      have e : x = b := by simpa using hb
      subst e
      have h1 := h.1
      unfold okB at h1
      simp only [Bool.and_eq_true] at h1
      have q1 := inB_iff.1 h1.1.2.1
      have q2 := inB_iff.1 h1.2.1
      omega
    | succ j =>
      have := ih _ h.2 j b (by simpa using hb)
      rw [List.length_append, List.length_singleton] at this
      omega
theorem chk_down {l : List Op} {T : List Brn} (h : chkR l T [] T = true) : Down T := fun i b hb => by
  have := chk_low T [] h i b hb
  simp only [List.length_nil, Nat.zero_add] at this
  exact this
def okT (T : List Brn) (O : List Nat) (b : Brn) (t : Nat) (k : Int) : Bool := inB k (-1) ((O.length : Int) - 1) && (decide (k = -1) || (decide (b.at_ < atB T k) && !(decide (t = 1) && (O.getD k.toNat 0).testBit b.opt.toNat)))
def vT (O : List Nat) (k : Int) : Nat := if k = -1 then 0 else O.getD k.toNat 0
theorem okB_eq (l : List Op) (T : List Brn) (O : List Nat) (b : Brn) : okB l T O b = (slotB l b && (okT T O b 0 b.no && okT T O b 1 b.yes)) := by
  unfold okB okT
  cases slotB l b <;> simp
theorem mkB_eq (O : List Nat) (b : Brn) : mkB O b = 2 ^ b.opt.toNat ||| vT O b.no ||| vT O b.yes := rfl
def kT (b : Brn) (t : Nat) : Int := if t = 0 then b.no else b.yes
def curT (O : List Nat) (b : Brn) : Nat → Nat
  | 0 => 2 ^ b.opt.toNat
  | t + 1 => curT O b t ||| vT O (kT b t)
def restT (T : List Brn) (O : List Nat) (b : Brn) : Nat → Bool
  | 0 => okT T O b 0 b.no && okT T O b 1 b.yes
  | 1 => okT T O b 1 b.yes
  | _ => true
theorem restT_step {T : List Brn} {O : List Nat} {b : Brn} {t : Nat} (h : t < 2) : restT T O b t = (okT T O b t (kT b t) && restT T O b (t + 1)) := by
  match t, h with
  | 0, _ => rfl
  | 1, _ => simp [restT, kT]
theorem curT_2 (O : List Nat) (b : Brn) : curT O b 2 = mkB O b := rfl
theorem vT_lt {O : List Nat} (h : ∀ x ∈ O, x < 256) (k : Int) : vT O k < 256 := by
  unfold vT
  split
  · omega
  · rw [List.getD_eq_getElem?_getD]
    by_cases hl : k.toNat < O.length
    · rw [List.getElem?_eq_getElem hl]; exact h _ (List.getElem_mem hl)
    · rw [List.getElem?_eq_none (by omega)]; simp
theorem curT_lt {O : List Nat} {b : Brn} (h : ∀ x ∈ O, x < 256) (ho : b.opt.toNat < 8) : ∀ t, curT O b t < 256
  | 0 => Nat.lt_of_lt_of_le (Nat.pow_lt_pow_right (by omega) ho) (by omega)
  | t + 1 => Nat.or_lt_two_pow (n := 8) (curT_lt h ho t) (vT_lt h _)
theorem ors_lt {O : List Nat} {b : Brn} (h : ∀ x ∈ O, x < 256) (ho : b.opt.toNat < 8) : ∀ x ∈ O ++ [mkB O b], x < 256 := by
  intro x hx
  rcases List.mem_append.1 hx with e | e
  · exact h x e
  · rw [List.mem_singleton.1 e, ← curT_2]
    exact curT_lt h ho 2
end Go.Proofs.Ytikphbgfcpamgaa
