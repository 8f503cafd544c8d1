/- Net of the reference. -/
import Derived.Test.YtpddnkefggaigaaO3
namespace Go.Proofs.Ytpddnkefggaigaa
open Go.RowKit

def netX (o : Int) (x : Loan) : Int := (if x.fr = o then x.units else 0) - (if x.to = o then x.units else 0)
def netL (ls : List Loan) (o : Int) : Int := (ls.map (netX o)).sum
def netP (p : Pool) (o : Int) : Option Int := if (validB p && ownerB o) = true then some (p.has.getD o.toNat 0 + netL p.loans o) else none
def netV (r : Option Int) : Value := match r with | none => .tuple #[.int .i64 0, .int .i64 250] | some n => .tuple #[.int .i64 n, .int .i64 0]
theorem netL_step (ls : List Loan) (o : Int) (k : Nat) (h : k < ls.length) : netL (ls.take (k + 1)) o = netL (ls.take k) o + netX o ls[k] := by
  unfold netL
  rw [List.take_succ_eq_append_getElem h, List.map_append, List.sum_append]
  simp
theorem netL_bd (ls : List Loan) (o : Int) (hu : ∀ x ∈ ls, 1 ≤ x.units ∧ x.units ≤ 1000000) (k : Nat) (h : k ≤ ls.length) : -(1000000 * k : Int) ≤ netL (ls.take k) o ∧ netL (ls.take k) o ≤ 1000000 * k := by
  induction k with
  | zero => simp [netL]
  | succ k ih =>
    have h1 := ih (by omega)
    rw [netL_step ls o k (by omega)]
    have h2 := hu ls[k] (List.getElem_mem _)
    have h3 : -1000000 ≤ netX o ls[k] ∧ netX o ls[k] ≤ 1000000 := by unfold netX; split <;> split <;> omega
    omega

set_option maxHeartbeats 1000000 in
theorem rnet_any (s1 s2 s3 s4 : Sl) (p : Pool) (o : Int) (w : World) (h : PoolR w w.heap.size s1 s2 s3 s4 p) :
    Calls Try.prog 24 #[poolV s1 s2 s3 s4, .int .i64 o] w fun e w' => e = .returned (netV (netP p o)) ∧ Below w.heap.size w w' := by
  have hva := rvalid_any s1 s2 s3 s4 p
  obtain ⟨A1, n1, c1⟩ := s1; obtain ⟨A2, n2, c2⟩ := s2; obtain ⟨A3, n3, c3⟩ := s3; obtain ⟨A4, n4, c4⟩ := s4
  show Calls Try.prog 24 #[.agg #[.slice A1 n1 c1, .slice A2 n2 c2, .slice A3 n3 c3, .slice A4 n4 c4], .int .i64 o] w _
  have HV := Lib.hid hva
  clear hva
  have ht : netP p o = if (validB p && ownerB o) = true then some (p.has.getD o.toNat 0 + netL p.loans o) else none := rfl
  generalize netP p o = tt at ht ⊢
  have HT := Lib.hid ht
  clear ht
  go_enter Try.func24, Try.ntmps24
  go_wp2_with fail
  generalize hW : w.alloc _ = W
  have hBW : Below w.heap.size w W := by subst hW; exact (by repeat (first | exact Below.refl _ _ | assumption | refine Below.drew ?_ | refine below_drewN ?_ _ | refine bl_alloc ?_ _ | refine Below.setCell ?_ (by first | (simp; done) | omega | (simp; omega)) _ | refine bl_then ?_ (by assumption)))
  have hzW : w.heap.size + 1 ≤ W.heap.size := by subst hW; simp
  have jp : Blk W w.heap.size 26 #[.slice A1 n1 c1, .slice A2 n2 c2, .slice A3 n3 c3, .slice A4 n4 c4] := by subst hW; exact Blk.new_at _ _ rfl
  clear hW
  refine (HV.out W ((h.below hBW).more (by omega))).mono ?_
  rintro e w1 ⟨rfl, hb1⟩
  have hB1 : Below w.heap.size w w1 := hBW.trans (hb1.mono (by omega))
  have hz1 : w.heap.size + 1 ≤ w1.heap.size := by have := hb1.size; omega
  have jp1 := jp.ext hb1
  have h1 := h.1.below hB1
  have h3 := h.2.2.1.below hB1
  clear jp hb1 hBW hzW h HV
  cases hv : validB p
  · rw [hv] at HT
    go_wp2_with (first | (go_at_call 41; refine (rowner_any _ _).mono ?_; rintro e w' ⟨rfl, rfl⟩) | (go_at_call 40; refine (rin_any _ _ _ _).mono ?_; rintro e w' ⟨rfl, rfl⟩))
    exact bodyPost_ret (v := .tuple #[.int .i64 0, .int .i64 250]) (by simp [results, Try.results24, go_sem]) rfl ⟨by rw [HT.out]; rfl, hB1⟩
  cases ho : ownerB o
  · rw [hv, ho] at HT
    go_wp2_with (first | (go_at_call 41; refine (rowner_any _ _).mono ?_; rintro e w' ⟨rfl, rfl⟩) | (go_at_call 40; refine (rin_any _ _ _ _).mono ?_; rintro e w' ⟨rfl, rfl⟩))
    exact bodyPost_ret (v := .tuple #[.int .i64 0, .int .i64 250]) (by simp [results, Try.results24, go_sem]) rfl ⟨by rw [HT.out]; rfl, hB1⟩
  have hp := valid_parts hv
  rw [hv, ho] at HT
  have hun : ∀ x ∈ p.loans, 1 ≤ x.units ∧ x.units ≤ 1000000 := fun x hx => by have := loans_units p.loans none hp.2.2.2.1 x hx; simp only [loanOK, Bool.and_eq_true, inB_iff] at this; exact this.2
  have HU := Lib.hid hun
  have hfew := loans_le p.loans hp.2.2.2.1
  have e3 : p.loans.length = n3 := h3.len
  have e1 : p.has.length = n1 := h1.len
  have hl1 := within_len hp.1
  obtain rfl : n1 = 16 := by omega
  obtain ⟨o1, o2⟩ := inB_iff.1 ho
  obtain ⟨on, rfl⟩ : ∃ n : Nat, o = (n : Int) := ⟨o.toNat, by omega⟩
  have ho1 : on < 16 := by omega
  have ho2 : (on : Int) < 16 := by omega
  have hn3 : n3 ≤ 256 := by omega
  obtain ⟨b1, f1, hz, hA, hb, hc⟩ := h1.at_ (k := on) ho1
  have hA : A1 = some ⟨b1, f1, none⟩ := hA
  subst hA
  have hxm := within_mem hp.1 p.has[on] (List.getElem_mem _)
  have hgd := getD_of_lt hz
  rw [Int.toNat_natCast, hgd] at HT
  clear hgd
  generalize p.has[on] = hx at hc hxm HT
  have hx1 := hxm.1
  have hx2 := hxm.2
  have HE := Lib.hid e3
  clear hun hfew e3 e1 hl1 hp hv hxm h1
  have p0 := jp1.cell 0
  have p2 := jp1.cell 2
  go_wp2_with (first | (go_at_call 41; refine (rowner_any _ _).mono ?_; rintro e w' ⟨rfl, rfl⟩) | (go_at_call 40; refine (rin_any _ _ _ _).mono ?_; rintro e w' ⟨rfl, rfl⟩))
  go_loop [6, 7] (fun t i => ∃ k : Nat, k ≤ n3 ∧ i = .int .i64 k ∧ t = .int .i64 (hx + netL (p.loans.take k) (on : Int))) (fun _ i => n3 - (intOf i).toNat)
  case atStart => exact ⟨0, Nat.zero_le _, rfl, by simp [netL]⟩
  case round =>
    obtain ⟨k, hk, rfl, rfl⟩ := hrel
    have hbd := netL_bd p.loans (on : Int) HU.out k (by have := HE.out; omega)
    have hs1 : -256000000 ≤ netL (p.loans.take k) (on : Int) := by omega
    have hs2 : netL (p.loans.take k) (on : Int) ≤ 256000000 := by omega
    clear hbd
    by_cases hlt : k < n3
    · obtain ⟨b, o, hz3, hA, hb3, hd0, hd1, hd2⟩ := h3.at_ hlt
      have hA : A3 = some ⟨b, o, none⟩ := hA
      subst hA
      have hst := netL_step p.loans (on : Int) k hz3
      have hux := HU.out p.loans[k] (List.getElem_mem _)
      generalize p.loans[k] = x at hd0 hd1 hd2 hst hux
      obtain ⟨xf, xt, xu⟩ := x
      have u1 : 1 ≤ xu := hux.1
      have u2 : xu ≤ 1000000 := hux.2
      dsimp only at hd0 hd1 hd2
      have HS := Lib.hid hst
      clear hst hux
      generalize netL (p.loans.take k) (on : Int) = a at hs1 hs2 HS
      cases d1 : xf == (on : Int)
      · cases d2 : xt == (on : Int)
        · go_wp2
          go_round
          case rel => exact ⟨k + 1, by omega, by go_num, by rw [HS.out]; simp at d1 d2; simp [netX, d1, d2]⟩
          case measure => simp [intOf]; omega
        · go_wp2
          go_round
          case rel => exact ⟨k + 1, by omega, by go_num, by rw [HS.out]; simp at d1 d2; simp [netX, d1, d2]; omega⟩
          case measure => simp [intOf]; omega
      · cases d2 : xt == (on : Int)
        · go_wp2
          go_round
          case rel => exact ⟨k + 1, by omega, by go_num, by rw [HS.out]; simp at d1 d2; simp [netX, d1, d2]; omega⟩
          case measure => simp [intOf]; omega
        · go_wp2
          go_round
          case rel => exact ⟨k + 1, by omega, by go_num, by rw [HS.out]; simp at d1 d2; simp [netX, d1, d2]⟩
          case measure => simp [intOf]; omega
    · obtain rfl : n3 = k := by omega
      rw [List.take_of_length_le (by have := HE.out; omega)] at hs1 hs2 ⊢
      go_wp2
      exact bodyPost_ret (v := .tuple #[.int .i64 (hx + netL p.loans (on : Int)), .int .i64 0]) (by simp [results, Try.results24, go_sem]) rfl ⟨by rw [HT.out]; rfl, hB1⟩

end Go.Proofs.Ytpddnkefggaigaa
