/- The reference: proper passes (lines of the contact chapter). -/
import Derived.Test.YtmlabgmigakcbaaP11
import Derived.Test.YtmlabgmigakcbaaP13
import Derived.BigQuiet
namespace Go.Proofs.Ytmlabgmigakcbaa
open Go.RowKit
theorem lt_pas (x y : Pas) : ltOf cmpPas x y = true ↔ x.can.fr < y.can.fr ∨ (x.can.fr = y.can.fr ∧ (x.sat < y.sat ∨ (x.sat = y.sat ∧ (x.station < y.station ∨ (x.station = y.station ∧ (x.sure.fr < y.sure.fr ∨ (x.sure.fr = y.sure.fr ∧ x.can.tt < y.can.tt))))))) := by
 have hor : ∀ a b : Int, orI a b < 0 ↔ (a < 0 ∨ (a = 0 ∧ b < 0)) := fun a b => by unfold orI; split <;> omega
 have hc : ∀ a b : Int, cmpI a b < 0 ↔ a < b := fun a b => by unfold cmpI; split <;> (try split) <;> omega
 have hz : ∀ a b : Int, cmpI a b = 0 ↔ a = b := fun a b => by unfold cmpI; split <;> (try split) <;> omega
 simp only [ltOf, cmpPas, decide_eq_true_eq, hor, hc, hz]
set_option maxHeartbeats 2000000 in
theorem before_any (asa asn aa ab ac ad bsa bsn ba bb bc bd : Int) (w : World) :
  Calls Try.prog 79 #[.agg #[.int .i64 asa, .int .i64 asn, .int .i64 aa, .int .i64 ab, .int .i64 ac, .int .i64 ad], .agg #[.int .i64 bsa, .int .i64 bsn, .int .i64 ba, .int .i64 bb, .int .i64 bc, .int .i64 bd]] w fun e w' => e = .returned (.bool (ltOf cmpPas ⟨asa, asn, ⟨aa, ab⟩, ⟨ac, ad⟩⟩ ⟨bsa, bsn, ⟨ba, bb⟩, ⟨bc, bd⟩⟩)) ∧ Below w.heap.size w w' := by
 have hl := lt_pas ⟨asa, asn, ⟨aa, ab⟩, ⟨ac, ad⟩⟩ ⟨bsa, bsn, ⟨ba, bb⟩, ⟨bc, bd⟩⟩
 dsimp only at hl
 generalize ltOf cmpPas ⟨asa, asn, ⟨aa, ab⟩, ⟨ac, ad⟩⟩ ⟨bsa, bsn, ⟨ba, bb⟩, ⟨bc, bd⟩⟩ = r at hl ⊢
 have hr : ∀ z : Int, ∀ u : Int, (z < u ↔ r = true) → Ending.returned (.bool (decide (z < u))) = .returned (.bool r) := fun z u h => by
  have : decide (z < u) = r := by rw [Bool.eq_iff_iff, decide_eq_true_iff]; exact h
  rw [this]
 have HR := Lib.hid hr
 have HL := Lib.hid hl
 clear hr hl
 by_cases h1 : ac = bc
 ·subst h1
  by_cases h2 : asa = bsa
  ·subst h2
   by_cases h3 : asn = bsn
   ·subst h3
    by_cases h4 : aa = ba
    ·subst h4
     go_enter Try.func79, Try.ntmps79
     go_wp2
     go_ret
     exact ⟨HR.out _ _ (by rw [HL.out]; first | omega | (simp only [true_and]; omega)), (by repeat (first | exact Below.refl _ _ | assumption | refine Below.drew ?_ | refine below_drewN ?_ _ | refine bl_alloc ?_ _ | refine Below.setCell ?_ (by first | (simp; done) | omega | (simp; omega)) _ | refine bl_then ?_ (by assumption)))⟩
    ·have n4 : (aa != ba) = true := by simpa using h4
     go_enter Try.func79, Try.ntmps79
     go_wp2
     go_ret
     exact ⟨HR.out _ _ (by rw [HL.out]; first | omega | (simp only [true_and]; omega)), (by repeat (first | exact Below.refl _ _ | assumption | refine Below.drew ?_ | refine below_drewN ?_ _ | refine bl_alloc ?_ _ | refine Below.setCell ?_ (by first | (simp; done) | omega | (simp; omega)) _ | refine bl_then ?_ (by assumption)))⟩
   ·have n3 : (asn != bsn) = true := by simpa using h3
    go_enter Try.func79, Try.ntmps79
    go_wp2
    go_ret
    exact ⟨HR.out _ _ (by rw [HL.out]; first | omega | (simp only [true_and]; omega)), (by repeat (first | exact Below.refl _ _ | assumption | refine Below.drew ?_ | refine below_drewN ?_ _ | refine bl_alloc ?_ _ | refine Below.setCell ?_ (by first | (simp; done) | omega | (simp; omega)) _ | refine bl_then ?_ (by assumption)))⟩
  ·have n2 : (asa != bsa) = true := by simpa using h2
   go_enter Try.func79, Try.ntmps79
   go_wp2
   go_ret
   exact ⟨HR.out _ _ (by rw [HL.out]; first | omega | (simp only [true_and]; omega)), (by repeat (first | exact Below.refl _ _ | assumption | refine Below.drew ?_ | refine below_drewN ?_ _ | refine bl_alloc ?_ _ | refine Below.setCell ?_ (by first | (simp; done) | omega | (simp; omega)) _ | refine bl_then ?_ (by assumption)))⟩
 ·have n1 : (ac != bc) = true := by simpa using h1
  go_enter Try.func79, Try.ntmps79
  go_wp2
  go_ret
  exact ⟨HR.out _ _ (by rw [HL.out]; first | omega | (simp only [true_and]; omega)), (by repeat (first | exact Below.refl _ _ | assumption | refine Below.drew ?_ | refine below_drewN ?_ _ | refine bl_alloc ?_ _ | refine Below.setCell ?_ (by first | (simp; done) | omega | (simp; omega)) _ | refine bl_then ?_ (by assumption)))⟩
def properR : Option Pas → List Pas → Bool
 | _, [] => true
 | p, x :: r => pasOK x && (match p with | none => true | some y => !ltOf cmpPas x y) && properR (some x) r
theorem properR_some (l : List Pas) (y : Pas) : properR (some y) l = (l.all pasOK && sortedP (y :: l)) := by
 induction l generalizing y with
 | nil => rfl
 | cons x r ih =>
  rw [properR, ih, List.all_cons, sortedP]
  show (pasOK x && !decide (cmpPas x y < 0) && _) = _
  generalize pasOK x = a
  generalize (!decide (cmpPas x y < 0)) = b
  generalize r.all pasOK = c
  generalize sortedP (x :: r) = d
  cases a <;> cases b <;> cases c <;> cases d <;> rfl
theorem properP_eq (l : List Pas) : properP l = (decide (l.length ≤ 64) && properR none l) := by
 unfold properP
 cases l with
 | nil => rfl
 | cons x r =>
  rw [properR, properR_some, List.all_cons]
  generalize pasOK x = a
  generalize r.all pasOK = c
  generalize sortedP (x :: r) = d
  generalize decide ((x :: r).length ≤ 64) = e
  cases a <;> cases c <;> cases d <;> cases e <;> rfl
theorem properR_step (l : List Pas) (k : Nat) (h : k < l.length) :
  properR (prevAt l k) (l.drop k) = (pasOK l[k] && (match prevAt l k with | none => true | some y => !ltOf cmpPas l[k] y) && properR (prevAt l (k + 1)) (l.drop (k + 1))) := by
 have hp : prevAt l (k + 1) = some l[k] := by simp [prevAt, h]
 rw [List.drop_eq_getElem_cons h, hp]
 cases prevAt l k <;> rfl
theorem pasOK_flat (sa sn a b c d : Int) : pasOK ⟨sa, sn, ⟨a, b⟩, ⟨c, d⟩⟩ = (inB sa 0 23 && inB sn 0 11 && decide (0 ≤ c) && decide (c < d) && decide (d ≤ 1000001) && (decide (a = 0 ∧ b = 0) || (decide (c ≤ a) && decide (a < b) && decide (b ≤ d)))) := by
 simp only [pasOK, splIn, Spl.mk.injEq, Bool.decide_and, Bool.and_assoc]
theorem eql_spl0 (a b : Int) (w : World) : (binOp .eql 29 (.agg #[.int .i64 a, .int .i64 b]) (.agg #[.int .i64 0, .int .i64 0])).run Try.prog w = .ok (.bool (decide (a = 0 ∧ b = 0))) w := by
 have u3 := Try.underlying3
 have hS : Try.prog.underlying 29 = some (.struct (Try.prog.fieldsOf 29)) := by kernel_rfl
 have hp : Try.prog.stoodInHeld 29 = false := by kernel_rfl
 rw [run_eql_struct, show (10000 : Nat) = 9999 + 1 from rfl, run_equalIn_agg w 9999 29 _ _ hS hp]
 clear hS hp
 simp only [Program.fieldsOf, Try.underlying29]
 go_simp
 by_cases h0 : a = 0 <;> by_cases h1 : b = 0 <;> simp [h0, h1]
set_option maxRecDepth 100000 in
set_option maxHeartbeats 8000000 in
theorem rproper_any (l : List Pas) (A : Option Addr) (n c : Nat) (w : World) (h : RA pasCells 6 w w.heap.size A n c l) :
  Calls Try.prog 43 #[.slice A n c] w fun e w' => e = .returned (.bool (properP l)) ∧ Below w.heap.size w w' := by
 have HR := Lib.hid h
 have hle := h.le
 have HL := Lib.hid h.len
 have hpp : properP l = (decide (n ≤ 64) && properR none l) := by rw [properP_eq, h.len]
 rw [hpp]
 clear h hpp
 by_cases hn : n ≤ 64
 ·have hd : decide (n ≤ 64) = true := by simpa using hn
  rw [hd, Bool.true_and]
  clear hd
  have hrl : properR none l = properR (prevAt l 0) (l.drop 0) := by simp [prevAt]
  have HQ := Lib.hid hrl
  clear hrl
  go_enter Try.func43, Try.ntmps43
  go_wp2
  go_loopw [3] (fun i wr => ∃ k : Nat, k ≤ n ∧ i = .int .i64 k ∧ Hid (properR none l = properR (prevAt l k) (l.drop k)) ∧ Below w.heap.size w wr) (fun i _ => n - (intOf i).toNat)
  case atStart => exact ⟨0, Nat.zero_le _, rfl, HQ, Below.refl _ _⟩
  case round =>
   clear HQ
   obtain ⟨k, hk, rfl, HK, hB⟩ := hrel
   by_cases hlt : k < n
   ·obtain ⟨b_, o, hz, hA, hbl, hc⟩ := (HR.out.below hB).at_ pas_len hlt
    have hst := properR_step l k hz
    rw [← HK.out] at hst
    generalize l[k] = x at hst hc
    obtain ⟨sa, sn, ⟨a, b⟩, ⟨c', d⟩⟩ := x
    have v0 : wr.cell? ⟨b_, o + k * 6, none⟩ = some (.int .i64 sa) := hc 0 (by omega)
    have v1 : wr.cell? ⟨b_, o + k * 6 + 1, none⟩ = some (.int .i64 sn) := hc 1 (by omega)
    have v2 : wr.cell? ⟨b_, o + k * 6 + 2, none⟩ = some (.int .i64 a) := hc 2 (by omega)
    have v3 : wr.cell? ⟨b_, o + k * 6 + 3, none⟩ = some (.int .i64 b) := hc 3 (by omega)
    have v4 : wr.cell? ⟨b_, o + k * 6 + 4, none⟩ = some (.int .i64 c') := hc 4 (by omega)
    have v5 : wr.cell? ⟨b_, o + k * 6 + 5, none⟩ = some (.int .i64 d) := hc 5 (by omega)
    rw [pasOK_flat] at hst
    have HS := Lib.hid hst
    clear hst hc HK
    subst hA
    have hblt : b_ < w.heap.size := hbl
    go_upto_region 7 with (fail)
    obtain ⟨gb, hgb⟩ : ∃ g, g = wr.heap.size := ⟨_, rfl⟩
    have K : Blk (wr.alloc (.cells #[.int .i64 sa, .int .i64 sn, .int .i64 a, .int .i64 b, .int .i64 c', .int .i64 d] 98)) gb 98 #[.int .i64 sa, .int .i64 sn, .int .i64 a, .int .i64 b, .int .i64 c', .int .i64 d] := Blk.new_at _ _ _ hgb.symm
    have hx1 : Ext wr (wr.alloc (.cells #[.int .i64 sa, .int .i64 sn, .int .i64 a, .int .i64 b, .int .i64 c', .int .i64 d] 98)) := bl_alloc (Below.refl _ _) _
    rw [← hgb]
    generalize wr.alloc (.cells #[.int .i64 sa, .int .i64 sn, .int .i64 a, .int .i64 b, .int .i64 c', .int .i64 d] 98) = W1 at K hx1 ⊢
    have hB1 : Below w.heap.size w W1 := bl_then hB hx1
    have HX1 := Lib.hid hx1
    have g0 : W1.cell? ⟨gb, 0, none⟩ = some (.int .i64 sa) := K.cell 0
    have g1 : W1.cell? ⟨gb, 1, none⟩ = some (.int .i64 sn) := K.cell 1
    have g2 : W1.cell? ⟨gb, 2, none⟩ = some (.int .i64 a) := K.cell 2
    have g3 : W1.cell? ⟨gb, 3, none⟩ = some (.int .i64 b) := K.cell 3
    have g4 : W1.cell? ⟨gb, 4, none⟩ = some (.int .i64 c') := K.cell 4
    have g5 : W1.cell? ⟨gb, 5, none⟩ = some (.int .i64 d) := K.cell 5
    clear K hx1 hgb v0 v1 v2 v3 v4 v5
    cases e1 : inB sa 0 23
    ·have E1 := Lib.hid e1
     clear e1
     go_wp2_with (go_at_call 78; refine (rin_any _ _ _ _).mono ?_; rintro e w' ⟨rfl, rfl⟩; first | rw [E1.out])
     go_ret
     exact ⟨by rw [HS.out, E1.out]; rfl, hB1⟩
    cases e2 : inB sn 0 11
    ·have E1 := Lib.hid e1
     have E2 := Lib.hid e2
     clear e1 e2
     go_wp2_with (go_at_call 78; refine (rin_any _ _ _ _).mono ?_; rintro e w' ⟨rfl, rfl⟩; first | rw [E1.out] | rw [E2.out])
     go_ret
     exact ⟨by rw [HS.out, E1.out, E2.out]; rfl, hB1⟩
    have E1 := Lib.hid e1
    have E2 := Lib.hid e2
    clear e1 e2
    by_cases h3 : 0 ≤ c'
    case neg =>
     have h3' : c' < 0 := by omega
     have d3 : decide (0 ≤ c') = false := by simpa using h3'
     have D3 := Lib.hid d3
     clear d3
     go_wp2_with (go_at_call 78; refine (rin_any _ _ _ _).mono ?_; rintro e w' ⟨rfl, rfl⟩; first | rw [E1.out] | rw [E2.out])
     go_ret
     exact ⟨by rw [HS.out, E1.out, E2.out, D3.out]; rfl, hB1⟩
    have d3 : decide (0 ≤ c') = true := by simpa using h3
    have D3 := Lib.hid d3
    have d3 : decide (c' < 0) = false := by simp; omega
    by_cases h4 : c' < d
    case neg =>
     have h4' : d ≤ c' := by omega
     have d4 : decide (c' < d) = false := by simpa using h4'
     have D4 := Lib.hid d4
     clear d4
     go_wp2_with (go_at_call 78; refine (rin_any _ _ _ _).mono ?_; rintro e w' ⟨rfl, rfl⟩; first | rw [E1.out] | rw [E2.out])
     go_ret
     exact ⟨by rw [HS.out, E1.out, E2.out, D3.out, D4.out]; rfl, hB1⟩
    have d4 : decide (c' < d) = true := by simpa using h4
    have D4 := Lib.hid d4
    have d4 : decide (d ≤ c') = false := by simp; omega
    by_cases h5 : d ≤ 1000001
    case neg =>
     have h5' : 1000001 < d := by omega
     have d5 : decide (d ≤ 1000001) = false := by simpa using h5'
     have D5 := Lib.hid d5
     clear d5
     go_wp2_with (go_at_call 78; refine (rin_any _ _ _ _).mono ?_; rintro e w' ⟨rfl, rfl⟩; first | rw [E1.out] | rw [E2.out])
     go_ret
     exact ⟨by rw [HS.out, E1.out, E2.out, D3.out, D4.out, D5.out]; rfl, hB1⟩
    have d5 : decide (d ≤ 1000001) = true := by simpa using h5
    have hnext : properR none l = ((decide (a = 0 ∧ b = 0) || (decide (c' ≤ a) && decide (a < b) && decide (b ≤ d))) && (match prevAt l k with | none => true | some y => !ltOf cmpPas ⟨sa, sn, ⟨a, b⟩, ⟨c', d⟩⟩ y) && properR (prevAt l (k + 1)) (l.drop (k + 1))) := by
     rw [HS.out, E1.out, E2.out, D3.out, D4.out, d5]; rfl
    have HN := Lib.hid hnext
    clear hnext HS D3 D4
    have d5 : decide (1000001 < d) = false := by simp; omega
    have heq := eql_spl0
    cases h6 : decide (a = 0 ∧ b = 0)
    ·have h6n : ¬ (a = 0 ∧ b = 0) := by simpa using h6
     by_cases h7 : a < c'
     ·have h7b : decide (a < c') = true := decide_eq_true h7
      have hF : (decide (a = 0 ∧ b = 0) || (decide (c' ≤ a) && decide (a < b) && decide (b ≤ d))) = false := by rw [h6]; simp; omega
      have HF := Lib.hid hF
      clear hF h6n
      go_upto_region 10 with (go_at_call 78; refine (rin_any _ _ _ _).mono ?_; rintro e w' ⟨rfl, rfl⟩; first | rw [E1.out] | rw [E2.out])
      go_quiet (fail)
      have hB5 : Below w.heap.size w (W1.drewN nq) := (by repeat (first | exact Below.refl _ _ | assumption | refine Below.drew ?_ | refine below_drewN ?_ _ | refine bl_alloc ?_ _ | refine Below.setCell ?_ (by first | (simp; done) | omega | (simp; omega)) _ | refine bl_then ?_ (by assumption)))
      clear g0 g1 g2 g3 g4 g5
      go_wp2
      go_ret
      exact ⟨by rw [HN.out, HF.out]; rfl, hB5⟩
     ·have h7' : c' ≤ a := by omega
      have d7 : decide (a < c') = false := by simp; omega
      by_cases h8 : b ≤ a
      ·have h8b : decide (b ≤ a) = true := decide_eq_true h8
       have hF : (decide (a = 0 ∧ b = 0) || (decide (c' ≤ a) && decide (a < b) && decide (b ≤ d))) = false := by rw [h6]; simp; omega
       have HF := Lib.hid hF
       clear hF h6n
       go_upto_region 10 with (go_at_call 78; refine (rin_any _ _ _ _).mono ?_; rintro e w' ⟨rfl, rfl⟩; first | rw [E1.out] | rw [E2.out])
       go_quiet (fail)
       have hB5 : Below w.heap.size w (W1.drewN nq) := (by repeat (first | exact Below.refl _ _ | assumption | refine Below.drew ?_ | refine below_drewN ?_ _ | refine bl_alloc ?_ _ | refine Below.setCell ?_ (by first | (simp; done) | omega | (simp; omega)) _ | refine bl_then ?_ (by assumption)))
       clear g0 g1 g2 g3 g4 g5
       go_wp2
       go_ret
       exact ⟨by rw [HN.out, HF.out]; rfl, hB5⟩
      ·have h8' : a < b := by omega
       have d8 : decide (b ≤ a) = false := by simp; omega
       by_cases h9 : d < b
       ·have h9b : decide (d < b) = true := decide_eq_true h9
        have hF : (decide (a = 0 ∧ b = 0) || (decide (c' ≤ a) && decide (a < b) && decide (b ≤ d))) = false := by rw [h6]; simp; omega
        have HF := Lib.hid hF
        clear hF h6n
        go_upto_region 10 with (go_at_call 78; refine (rin_any _ _ _ _).mono ?_; rintro e w' ⟨rfl, rfl⟩; first | rw [E1.out] | rw [E2.out])
        go_quiet (fail)
        have hB5 : Below w.heap.size w (W1.drewN nq) := (by repeat (first | exact Below.refl _ _ | assumption | refine Below.drew ?_ | refine below_drewN ?_ _ | refine bl_alloc ?_ _ | refine Below.setCell ?_ (by first | (simp; done) | omega | (simp; omega)) _ | refine bl_then ?_ (by assumption)))
        clear g0 g1 g2 g3 g4 g5
        go_wp2
        go_ret
        exact ⟨by rw [HN.out, HF.out]; rfl, hB5⟩
       ·have h9' : b ≤ d := by omega
        have d9 : decide (d < b) = false := by simp; omega
        have hF : (decide (a = 0 ∧ b = 0) || (decide (c' ≤ a) && decide (a < b) && decide (b ≤ d))) = true := by rw [h6]; simp; omega
        have HF := Lib.hid hF
        clear hF h6n
        go_upto_region 10 with (go_at_call 78; refine (rin_any _ _ _ _).mono ?_; rintro e w' ⟨rfl, rfl⟩; first | rw [E1.out] | rw [E2.out])
        by_cases hk0 : k = 0
        ·have hk0' : (k : Int) ≤ 0 := by omega
         have hpv : prevAt l k = none := by simp [prevAt, hk0]
         have HP := Lib.hid hpv
         have hk0h := Lib.hid hk0
         have hkd : decide (0 < k) = false := by simp; omega
         have hke : decide ((0 : Int) < (k : Int)) = false := by simp; omega
         clear hpv hk0
         go_quiet (fail)
         have hB5 : Below w.heap.size w (W1.drewN nq) := (by repeat (first | exact Below.refl _ _ | assumption | refine Below.drew ?_ | refine below_drewN ?_ _ | refine bl_alloc ?_ _ | refine Below.setCell ?_ (by first | (simp; done) | omega | (simp; omega)) _ | refine bl_then ?_ (by assumption)))
         clear g0 g1 g2 g3 g4 g5
         go_wp2
         go_roundw
         case rel => exact ⟨k + 1, by omega, by go_num, Lib.hid (by rw [HN.out, HF.out, HP.out]; rfl), hB5⟩
         case measure => simp [intOf]; omega
        ·have hk1 : (0 : Int) < (k : Int) := by omega
         obtain ⟨b', o', hz', hA', hbl', hc'⟩ := RA.at_ pas_len (HR.out.below hB) (k := k - 1) (by omega)
         obtain ⟨rfl, rfl⟩ : b' = b_ ∧ o' = o := by injection hA' with hA'; injection hA' with h1 h2; exact ⟨h1.symm, h2.symm⟩
         have hpv : prevAt l k = some l[k - 1] := by unfold prevAt; rw [if_neg hk0, List.getElem?_eq_getElem hz']
         generalize l[k - 1] = y at hpv hc'
         obtain ⟨ysa, ysn, ⟨ya, yb⟩, ⟨yc, yd⟩⟩ := y
         have d0 : W1.cell? ⟨b', o' + (k - 1) * 6, none⟩ = some (.int .i64 ysa) := ext_cell HX1.out (hc' 0 (by omega))
         have d1 : W1.cell? ⟨b', o' + (k - 1) * 6 + 1, none⟩ = some (.int .i64 ysn) := ext_cell HX1.out (hc' 1 (by omega))
         have d2 : W1.cell? ⟨b', o' + (k - 1) * 6 + 2, none⟩ = some (.int .i64 ya) := ext_cell HX1.out (hc' 2 (by omega))
         have d3 : W1.cell? ⟨b', o' + (k - 1) * 6 + 3, none⟩ = some (.int .i64 yb) := ext_cell HX1.out (hc' 3 (by omega))
         have d4 : W1.cell? ⟨b', o' + (k - 1) * 6 + 4, none⟩ = some (.int .i64 yc) := ext_cell HX1.out (hc' 4 (by omega))
         have d5 : W1.cell? ⟨b', o' + (k - 1) * 6 + 5, none⟩ = some (.int .i64 yd) := ext_cell HX1.out (hc' 5 (by omega))
         have hlc := before_any sa sn a b c' d ysa ysn ya yb yc yd
         generalize hlq : ltOf cmpPas ⟨sa, sn, ⟨a, b⟩, ⟨c', d⟩⟩ ⟨ysa, ysn, ⟨ya, yb⟩, ⟨yc, yd⟩⟩ = lt at hlc
         have HLQ := Lib.hid hlq
         have HLT := Lib.hid hlc
         have HP := Lib.hid hpv
         have hk0h := Lib.hid hk0
         clear hpv hc' hA' hbl' hk0 hlc hlq
         have hki : IntKind.i64.wrap ((k : Int) - 1) = (k : Int) - 1 := IntWalk.i64_in _ (by omega)
         have hkn : ((k : Int) - 1).toNat = k - 1 := by omega
         have hkd : decide (0 < k) = true := by simp; omega
         refine wp_region_obl 42 (fun ix vals v w1 => match ix with | 0 => v = .bool false | 1 => v = .bool true | 2 => v = .bool true | 3 => v = .pointer (some ⟨gb, 2, none⟩) | 4 => v = .pointer (some ⟨gb, 2, none⟩) | 5 => v = .int .i64 a | 6 => v = .pointer (some ⟨gb, 4, none⟩) | 7 => v = .pointer (some ⟨gb, 4, none⟩) | 8 => v = .int .i64 c' | 9 => v = .bool false | 10 => v = .bool false | 11 => v = .pointer (some ⟨gb, 2, none⟩) | 12 => v = .pointer (some ⟨gb, 2, none⟩) | 13 => v = .int .i64 a | 14 => v = .pointer (some ⟨gb, 2, none⟩) | 15 => v = .pointer (some ⟨gb, 3, none⟩) | 16 => v = .int .i64 b | 17 => v = .bool false | 18 => v = .bool false | 19 => v = .bool false | 20 => v = .pointer (some ⟨gb, 2, none⟩) | 21 => v = .pointer (some ⟨gb, 3, none⟩) | 22 => v = .int .i64 b | 23 => v = .pointer (some ⟨gb, 4, none⟩) | 24 => v = .pointer (some ⟨gb, 5, none⟩) | 25 => v = .int .i64 d | 26 => v = .bool false | 27 => v = .bool false | 28 => v = .bool false | 29 => v = .bool false | 30 => v = .int .i64 (k : Int) | 31 => v = .bool true | 32 => v = .bool true | 33 => v = .agg #[.int .i64 sa, .int .i64 sn, .int .i64 a, .int .i64 b, .int .i64 c', .int .i64 d] | 34 => v = .slice (some ⟨b', o', none⟩) n c | 35 => v = .int .i64 (k : Int) | 36 => v = .int .i64 ((k : Int) - 1) | 37 => v = .pointer (some ⟨b', o' + (k - 1) * 6, none⟩) | 38 => v = .agg #[.int .i64 ysa, .int .i64 ysn, .int .i64 ya, .int .i64 yb, .int .i64 yc, .int .i64 yd] | 39 => v = .bool lt | 40 => v = .bool lt | _ => v = .bool lt) (by kernel_rfl) (by kernel_rfl) ?_ ?_ ?_ ?_
         ·intro ix vals v w1 w2 hi hr hx
          match ix, hr with
          | 0, hr => exact hr
          | 1, hr => exact hr
          | 2, hr => exact hr
          | 3, hr => exact hr
          | 4, hr => exact hr
          | 5, hr => exact hr
          | 6, hr => exact hr
          | 7, hr => exact hr
          | 8, hr => exact hr
          | 9, hr => exact hr
          | 10, hr => exact hr
          | 11, hr => exact hr
          | 12, hr => exact hr
          | 13, hr => exact hr
          | 14, hr => exact hr
          | 15, hr => exact hr
          | 16, hr => exact hr
          | 17, hr => exact hr
          | 18, hr => exact hr
          | 19, hr => exact hr
          | 20, hr => exact hr
          | 21, hr => exact hr
          | 22, hr => exact hr
          | 23, hr => exact hr
          | 24, hr => exact hr
          | 25, hr => exact hr
          | 26, hr => exact hr
          | 27, hr => exact hr
          | 28, hr => exact hr
          | 29, hr => exact hr
          | 30, hr => exact hr
          | 31, hr => exact hr
          | 32, hr => exact hr
          | 33, hr => exact hr
          | 34, hr => exact hr
          | 35, hr => exact hr
          | 36, hr => exact hr
          | 37, hr => exact hr
          | 38, hr => exact hr
          | 39, hr => exact hr
          | 40, hr => exact hr
          | (kx + 41), hr => exact hr
         ·intro ix vals vals_ v w1 hi hv hr
          exact hr
         ·refine ⟨?_, ?_, ?_, ?_, ?_, ?_, ?_, ?_, ?_, ?_, ?_, ?_, ?_, ?_, ?_, ?_, ?_, ?_, ?_, ?_, ?_, ?_, ?_, ?_, ?_, ?_, ?_, ?_, ?_, ?_, ?_, ?_, ?_, ?_, ?_, ?_, ?_, ?_, ?_, ?_, ?_, ?_, trivial⟩
          ·intro vals w1 hx hd ha
           clear hd ha
           simp only [Lf]
           go_wp2
           exact ⟨rfl, Ext.refl _, rfl⟩
          ·intro vals w1 hx hd ha
           have e0 : vals 0 = .bool false := hd 0 (by decide)
           clear hd ha
           simp only [Lf, dstAt, Act.put, List.getElem?_toArray, List.getElem?_cons_zero, Option.bind_some, List.setIfInBounds_toArray, List.set_cons_zero, List.set_cons_succ]
           simp only [e0]
           clear e0
           go_wp2
           exact ⟨rfl, Ext.refl _, rfl⟩
          ·intro vals w1 hx hd ha
           have e1 : vals 1 = .bool true := hd 1 (by decide)
           clear hd ha
           simp only [Lf, dstAt, Act.put, List.getElem?_toArray, List.getElem?_cons_zero, List.getElem?_cons_succ, Option.bind_some, List.setIfInBounds_toArray, List.set_cons_zero, List.set_cons_succ]
           simp only [e1]
           clear e1
           go_wp2
           exact ⟨rfl, Ext.refl _, rfl⟩
          ·intro vals w1 hx hd ha
           have e2 : vals 2 = .bool true := hd 2 (by decide)
           clear hd ha
           simp only [Lf, dstAt, Act.put, List.getElem?_toArray, List.getElem?_cons_zero, List.getElem?_cons_succ, Option.bind_some, List.setIfInBounds_toArray, List.set_cons_zero, List.set_cons_succ]
           simp only [e2]
           clear e2
           go_wp2
           exact ⟨rfl, Ext.refl _, rfl⟩
          ·intro vals w1 hx hd ha
           have e2 : vals 2 = .bool true := hd 2 (by decide)
           have e3 : vals 3 = .pointer (some ⟨gb, 2, none⟩) := hd 3 (by decide)
           clear hd ha
           simp only [Lf, dstAt, Act.put, List.getElem?_toArray, List.getElem?_cons_zero, List.getElem?_cons_succ, Option.bind_some, List.setIfInBounds_toArray, List.set_cons_zero, List.set_cons_succ]
           simp only [e2, e3]
           clear e2 e3
           go_wp2
           exact ⟨rfl, Ext.refl _, rfl⟩
          ·intro vals w1 hx hd ha
           have e2 : vals 2 = .bool true := hd 2 (by decide)
           have e4 : vals 4 = .pointer (some ⟨gb, 2, none⟩) := hd 4 (by decide)
           clear hd ha
           simp only [Lf, dstAt, Act.put, List.getElem?_toArray, List.getElem?_cons_zero, List.getElem?_cons_succ, Option.bind_some, List.setIfInBounds_toArray, List.set_cons_zero, List.set_cons_succ]
           simp only [e2, e4]
           clear e2 e4
           have g2 := ext_cell hx g2
           go_wp2
           exact ⟨rfl, Ext.refl _, rfl⟩
          ·intro vals w1 hx hd ha
           have e2 : vals 2 = .bool true := hd 2 (by decide)
           clear hd ha
           simp only [Lf, dstAt, Act.put, List.getElem?_toArray, List.getElem?_cons_zero, List.getElem?_cons_succ, Option.bind_some, List.setIfInBounds_toArray, List.set_cons_zero, List.set_cons_succ]
           simp only [e2]
           clear e2
           go_wp2
           exact ⟨rfl, Ext.refl _, rfl⟩
          ·intro vals w1 hx hd ha
           have e2 : vals 2 = .bool true := hd 2 (by decide)
           have e6 : vals 6 = .pointer (some ⟨gb, 4, none⟩) := hd 6 (by decide)
           clear hd ha
           simp only [Lf, dstAt, Act.put, List.getElem?_toArray, List.getElem?_cons_zero, List.getElem?_cons_succ, Option.bind_some, List.setIfInBounds_toArray, List.set_cons_zero, List.set_cons_succ]
           simp only [e2, e6]
           clear e2 e6
           go_wp2
           exact ⟨rfl, Ext.refl _, rfl⟩
          ·intro vals w1 hx hd ha
           have e2 : vals 2 = .bool true := hd 2 (by decide)
           have e7 : vals 7 = .pointer (some ⟨gb, 4, none⟩) := hd 7 (by decide)
           clear hd ha
           simp only [Lf, dstAt, Act.put, List.getElem?_toArray, List.getElem?_cons_zero, List.getElem?_cons_succ, Option.bind_some, List.setIfInBounds_toArray, List.set_cons_zero, List.set_cons_succ]
           simp only [e2, e7]
           clear e2 e7
           have g4 := ext_cell hx g4
           go_wp2
           exact ⟨rfl, Ext.refl _, rfl⟩
          ·intro vals w1 hx hd ha
           have e2 : vals 2 = .bool true := hd 2 (by decide)
           have e5 : vals 5 = .int .i64 a := hd 5 (by decide)
           have e8 : vals 8 = .int .i64 c' := hd 8 (by decide)
           clear hd ha
           simp only [Lf, dstAt, Act.put, List.getElem?_toArray, List.getElem?_cons_zero, List.getElem?_cons_succ, Option.bind_some, List.setIfInBounds_toArray, List.set_cons_zero, List.set_cons_succ]
           simp only [e2, e5, e8]
           clear e2 e5 e8
           go_wp2
           exact ⟨rfl, Ext.refl _, rfl⟩
          ·intro vals w1 hx hd ha
           have e2 : vals 2 = .bool true := hd 2 (by decide)
           have e9 : vals 9 = .bool false := hd 9 (by decide)
           clear hd ha
           simp only [Lf, dstAt, Act.put, List.getElem?_toArray, List.getElem?_cons_zero, List.getElem?_cons_succ, Option.bind_some, List.setIfInBounds_toArray, List.set_cons_zero, List.set_cons_succ]
           simp only [e2, e9]
           clear e2 e9
           go_wp2
           exact ⟨rfl, Ext.refl _, rfl⟩
          ·intro vals w1 hx hd ha
           have e10 : vals 10 = .bool false := hd 10 (by decide)
           clear hd ha
           simp only [Lf, dstAt, Act.put, List.getElem?_toArray, List.getElem?_cons_zero, List.getElem?_cons_succ, Option.bind_some, List.setIfInBounds_toArray, List.set_cons_zero, List.set_cons_succ]
           simp only [e10]
           clear e10
           go_wp2
           exact ⟨rfl, Ext.refl _, rfl⟩
          ·intro vals w1 hx hd ha
           have e10 : vals 10 = .bool false := hd 10 (by decide)
           have e11 : vals 11 = .pointer (some ⟨gb, 2, none⟩) := hd 11 (by decide)
           clear hd ha
           simp only [Lf, dstAt, Act.put, List.getElem?_toArray, List.getElem?_cons_zero, List.getElem?_cons_succ, Option.bind_some, List.setIfInBounds_toArray, List.set_cons_zero, List.set_cons_succ]
           simp only [e10, e11]
           clear e10 e11
           go_wp2
           exact ⟨rfl, Ext.refl _, rfl⟩
          ·intro vals w1 hx hd ha
           have e10 : vals 10 = .bool false := hd 10 (by decide)
           have e12 : vals 12 = .pointer (some ⟨gb, 2, none⟩) := hd 12 (by decide)
           clear hd ha
           simp only [Lf, dstAt, Act.put, List.getElem?_toArray, List.getElem?_cons_zero, List.getElem?_cons_succ, Option.bind_some, List.setIfInBounds_toArray, List.set_cons_zero, List.set_cons_succ]
           simp only [e10, e12]
           clear e10 e12
           have g2 := ext_cell hx g2
           go_wp2
           exact ⟨rfl, Ext.refl _, rfl⟩
          ·intro vals w1 hx hd ha
           have e10 : vals 10 = .bool false := hd 10 (by decide)
           clear hd ha
           simp only [Lf, dstAt, Act.put, List.getElem?_toArray, List.getElem?_cons_zero, List.getElem?_cons_succ, Option.bind_some, List.setIfInBounds_toArray, List.set_cons_zero, List.set_cons_succ]
           simp only [e10]
           clear e10
           go_wp2
           exact ⟨rfl, Ext.refl _, rfl⟩
          ·intro vals w1 hx hd ha
           have e10 : vals 10 = .bool false := hd 10 (by decide)
           have e14 : vals 14 = .pointer (some ⟨gb, 2, none⟩) := hd 14 (by decide)
           clear hd ha
           simp only [Lf, dstAt, Act.put, List.getElem?_toArray, List.getElem?_cons_zero, List.getElem?_cons_succ, Option.bind_some, List.setIfInBounds_toArray, List.set_cons_zero, List.set_cons_succ]
           simp only [e10, e14]
           clear e10 e14
           go_wp2
           exact ⟨rfl, Ext.refl _, rfl⟩
          ·intro vals w1 hx hd ha
           have e10 : vals 10 = .bool false := hd 10 (by decide)
           have e15 : vals 15 = .pointer (some ⟨gb, 3, none⟩) := hd 15 (by decide)
           clear hd ha
           simp only [Lf, dstAt, Act.put, List.getElem?_toArray, List.getElem?_cons_zero, List.getElem?_cons_succ, Option.bind_some, List.setIfInBounds_toArray, List.set_cons_zero, List.set_cons_succ]
           simp only [e10, e15]
           clear e10 e15
           have g3 := ext_cell hx g3
           go_wp2
           exact ⟨rfl, Ext.refl _, rfl⟩
          ·intro vals w1 hx hd ha
           have e10 : vals 10 = .bool false := hd 10 (by decide)
           have e13 : vals 13 = .int .i64 a := hd 13 (by decide)
           have e16 : vals 16 = .int .i64 b := hd 16 (by decide)
           clear hd ha
           simp only [Lf, dstAt, Act.put, List.getElem?_toArray, List.getElem?_cons_zero, List.getElem?_cons_succ, Option.bind_some, List.setIfInBounds_toArray, List.set_cons_zero, List.set_cons_succ]
           simp only [e10, e13, e16]
           clear e10 e13 e16
           go_wp2
           exact ⟨rfl, Ext.refl _, rfl⟩
          ·intro vals w1 hx hd ha
           have e2 : vals 2 = .bool true := hd 2 (by decide)
           have e10 : vals 10 = .bool false := hd 10 (by decide)
           have e17 : vals 17 = .bool false := hd 17 (by decide)
           clear hd ha
           simp only [Lf, dstAt, Act.put, List.getElem?_toArray, List.getElem?_cons_zero, List.getElem?_cons_succ, Option.bind_some, List.setIfInBounds_toArray, List.set_cons_zero, List.set_cons_succ]
           simp only [e2, e10, e17]
           clear e2 e10 e17
           go_wp2
           exact ⟨rfl, Ext.refl _, rfl⟩
          ·intro vals w1 hx hd ha
           have e2 : vals 2 = .bool true := hd 2 (by decide)
           have e10 : vals 10 = .bool false := hd 10 (by decide)
           have e18 : vals 18 = .bool false := hd 18 (by decide)
           clear hd ha
           simp only [Lf, dstAt, Act.put, List.getElem?_toArray, List.getElem?_cons_zero, List.getElem?_cons_succ, Option.bind_some, List.setIfInBounds_toArray, List.set_cons_zero, List.set_cons_succ]
           simp only [e2, e10, e18]
           clear e2 e10 e18
           go_wp2
           exact ⟨rfl, Ext.refl _, rfl⟩
          ·intro vals w1 hx hd ha
           have e19 : vals 19 = .bool false := hd 19 (by decide)
           clear hd ha
           simp only [Lf, dstAt, Act.put, List.getElem?_toArray, List.getElem?_cons_zero, List.getElem?_cons_succ, Option.bind_some, List.setIfInBounds_toArray, List.set_cons_zero, List.set_cons_succ]
           simp only [e19]
           clear e19
           go_wp2
           exact ⟨rfl, Ext.refl _, rfl⟩
          ·intro vals w1 hx hd ha
           have e19 : vals 19 = .bool false := hd 19 (by decide)
           have e20 : vals 20 = .pointer (some ⟨gb, 2, none⟩) := hd 20 (by decide)
           clear hd ha
           simp only [Lf, dstAt, Act.put, List.getElem?_toArray, List.getElem?_cons_zero, List.getElem?_cons_succ, Option.bind_some, List.setIfInBounds_toArray, List.set_cons_zero, List.set_cons_succ]
           simp only [e19, e20]
           clear e19 e20
           go_wp2
           exact ⟨rfl, Ext.refl _, rfl⟩
          ·intro vals w1 hx hd ha
           have e19 : vals 19 = .bool false := hd 19 (by decide)
           have e21 : vals 21 = .pointer (some ⟨gb, 3, none⟩) := hd 21 (by decide)
           clear hd ha
           simp only [Lf, dstAt, Act.put, List.getElem?_toArray, List.getElem?_cons_zero, List.getElem?_cons_succ, Option.bind_some, List.setIfInBounds_toArray, List.set_cons_zero, List.set_cons_succ]
           simp only [e19, e21]
           clear e19 e21
           have g3 := ext_cell hx g3
           go_wp2
           exact ⟨rfl, Ext.refl _, rfl⟩
          ·intro vals w1 hx hd ha
           have e19 : vals 19 = .bool false := hd 19 (by decide)
           clear hd ha
           simp only [Lf, dstAt, Act.put, List.getElem?_toArray, List.getElem?_cons_zero, List.getElem?_cons_succ, Option.bind_some, List.setIfInBounds_toArray, List.set_cons_zero, List.set_cons_succ]
           simp only [e19]
           clear e19
           go_wp2
           exact ⟨rfl, Ext.refl _, rfl⟩
          ·intro vals w1 hx hd ha
           have e19 : vals 19 = .bool false := hd 19 (by decide)
           have e23 : vals 23 = .pointer (some ⟨gb, 4, none⟩) := hd 23 (by decide)
           clear hd ha
           simp only [Lf, dstAt, Act.put, List.getElem?_toArray, List.getElem?_cons_zero, List.getElem?_cons_succ, Option.bind_some, List.setIfInBounds_toArray, List.set_cons_zero, List.set_cons_succ]
           simp only [e19, e23]
           clear e19 e23
           go_wp2
           exact ⟨rfl, Ext.refl _, rfl⟩
          ·intro vals w1 hx hd ha
           have e19 : vals 19 = .bool false := hd 19 (by decide)
           have e24 : vals 24 = .pointer (some ⟨gb, 5, none⟩) := hd 24 (by decide)
           clear hd ha
           simp only [Lf, dstAt, Act.put, List.getElem?_toArray, List.getElem?_cons_zero, List.getElem?_cons_succ, Option.bind_some, List.setIfInBounds_toArray, List.set_cons_zero, List.set_cons_succ]
           simp only [e19, e24]
           clear e19 e24
           have g5 := ext_cell hx g5
           go_wp2
           exact ⟨rfl, Ext.refl _, rfl⟩
          ·intro vals w1 hx hd ha
           have e19 : vals 19 = .bool false := hd 19 (by decide)
           have e22 : vals 22 = .int .i64 b := hd 22 (by decide)
           have e25 : vals 25 = .int .i64 d := hd 25 (by decide)
           clear hd ha
           simp only [Lf, dstAt, Act.put, List.getElem?_toArray, List.getElem?_cons_zero, List.getElem?_cons_succ, Option.bind_some, List.setIfInBounds_toArray, List.set_cons_zero, List.set_cons_succ]
           simp only [e19, e22, e25]
           clear e19 e22 e25
           go_wp2
           exact ⟨rfl, Ext.refl _, rfl⟩
          ·intro vals w1 hx hd ha
           have e2 : vals 2 = .bool true := hd 2 (by decide)
           have e19 : vals 19 = .bool false := hd 19 (by decide)
           have e26 : vals 26 = .bool false := hd 26 (by decide)
           clear hd ha
           simp only [Lf, dstAt, Act.put, List.getElem?_toArray, List.getElem?_cons_zero, List.getElem?_cons_succ, Option.bind_some, List.setIfInBounds_toArray, List.set_cons_zero, List.set_cons_succ]
           simp only [e2, e19, e26]
           clear e2 e19 e26
           go_wp2
           exact ⟨rfl, Ext.refl _, rfl⟩
          ·intro vals w1 hx hd ha
           have e2 : vals 2 = .bool true := hd 2 (by decide)
           have e27 : vals 27 = .bool false := hd 27 (by decide)
           clear hd ha
           simp only [Lf, dstAt, Act.put, List.getElem?_toArray, List.getElem?_cons_zero, List.getElem?_cons_succ, Option.bind_some, List.setIfInBounds_toArray, List.set_cons_zero, List.set_cons_succ]
           simp only [e2, e27]
           clear e2 e27
           go_wp2
           exact ⟨rfl, Ext.refl _, rfl⟩
          ·intro vals w1 hx hd ha
           have e19 : vals 19 = .bool false := hd 19 (by decide)
           have e28 : vals 28 = .bool false := hd 28 (by decide)
           clear hd ha
           simp only [Lf, dstAt, Act.put, List.getElem?_toArray, List.getElem?_cons_zero, List.getElem?_cons_succ, Option.bind_some, List.setIfInBounds_toArray, List.set_cons_zero, List.set_cons_succ]
           simp only [e19, e28]
           clear e19 e28
           go_wp2
           exact ⟨rfl, Ext.refl _, rfl⟩
          ·intro vals w1 hx hd ha
           have e29 : vals 29 = .bool false := hd 29 (by decide)
           clear hd ha
           simp only [Lf, dstAt, Act.put, List.getElem?_toArray, List.getElem?_cons_zero, List.getElem?_cons_succ, Option.bind_some, List.setIfInBounds_toArray, List.set_cons_zero, List.set_cons_succ]
           simp only [e29]
           clear e29
           go_wp2
           exact ⟨rfl, Ext.refl _, rfl⟩
          ·intro vals w1 hx hd ha
           have e29 : vals 29 = .bool false := hd 29 (by decide)
           have e30 : vals 30 = .int .i64 (k : Int) := hd 30 (by decide)
           clear hd ha
           simp only [Lf, dstAt, Act.put, List.getElem?_toArray, List.getElem?_cons_zero, List.getElem?_cons_succ, Option.bind_some, List.setIfInBounds_toArray, List.set_cons_zero, List.set_cons_succ]
           simp only [e29, e30]
           clear e29 e30
           go_wp2
           exact ⟨rfl, Ext.refl _, rfl⟩
          ·intro vals w1 hx hd ha
           have e29 : vals 29 = .bool false := hd 29 (by decide)
           have e31 : vals 31 = .bool true := hd 31 (by decide)
           clear hd ha
           simp only [Lf, dstAt, Act.put, List.getElem?_toArray, List.getElem?_cons_zero, List.getElem?_cons_succ, Option.bind_some, List.setIfInBounds_toArray, List.set_cons_zero, List.set_cons_succ]
           simp only [e29, e31]
           clear e29 e31
           go_wp2
           exact ⟨rfl, Ext.refl _, rfl⟩
          ·intro vals w1 hx hd ha
           have e32 : vals 32 = .bool true := hd 32 (by decide)
           clear hd ha
           simp only [Lf, dstAt, Act.put, List.getElem?_toArray, List.getElem?_cons_zero, List.getElem?_cons_succ, Option.bind_some, List.setIfInBounds_toArray, List.set_cons_zero, List.set_cons_succ]
           simp only [e32]
           clear e32
           have g0 := ext_cell hx g0
           have g1 := ext_cell hx g1
           have g2 := ext_cell hx g2
           have g3 := ext_cell hx g3
           have g4 := ext_cell hx g4
           have g5 := ext_cell hx g5
           go_wp2
           exact ⟨rfl, Ext.refl _, rfl⟩
          ·intro vals w1 hx hd ha
           have e32 : vals 32 = .bool true := hd 32 (by decide)
           clear hd ha
           simp only [Lf, dstAt, Act.put, List.getElem?_toArray, List.getElem?_cons_zero, List.getElem?_cons_succ, Option.bind_some, List.setIfInBounds_toArray, List.set_cons_zero, List.set_cons_succ]
           simp only [e32]
           clear e32
           go_wp2
           exact ⟨rfl, Ext.refl _, rfl⟩
          ·intro vals w1 hx hd ha
           have e32 : vals 32 = .bool true := hd 32 (by decide)
           clear hd ha
           simp only [Lf, dstAt, Act.put, List.getElem?_toArray, List.getElem?_cons_zero, List.getElem?_cons_succ, Option.bind_some, List.setIfInBounds_toArray, List.set_cons_zero, List.set_cons_succ]
           simp only [e32]
           clear e32
           go_wp2
           exact ⟨rfl, Ext.refl _, rfl⟩
          ·intro vals w1 hx hd ha
           have e32 : vals 32 = .bool true := hd 32 (by decide)
           have e35 : vals 35 = .int .i64 (k : Int) := hd 35 (by decide)
           clear hd ha
           simp only [Lf, dstAt, Act.put, List.getElem?_toArray, List.getElem?_cons_zero, List.getElem?_cons_succ, Option.bind_some, List.setIfInBounds_toArray, List.set_cons_zero, List.set_cons_succ]
           simp only [e32, e35]
           clear e32 e35
           go_wp2
           exact ⟨rfl, Ext.refl _, rfl⟩
          ·intro vals w1 hx hd ha
           have e32 : vals 32 = .bool true := hd 32 (by decide)
           have e34 : vals 34 = .slice (some ⟨b', o', none⟩) n c := hd 34 (by decide)
           have e36 : vals 36 = .int .i64 ((k : Int) - 1) := hd 36 (by decide)
           clear hd ha
           simp only [Lf, dstAt, Act.put, List.getElem?_toArray, List.getElem?_cons_zero, List.getElem?_cons_succ, Option.bind_some, List.setIfInBounds_toArray, List.set_cons_zero, List.set_cons_succ]
           simp only [e32, e34, e36]
           clear e32 e34 e36
           go_wp2
           exact ⟨rfl, Ext.refl _, rfl⟩
          ·intro vals w1 hx hd ha
           have e32 : vals 32 = .bool true := hd 32 (by decide)
           have e37 : vals 37 = .pointer (some ⟨b', o' + (k - 1) * 6, none⟩) := hd 37 (by decide)
           clear hd ha
           simp only [Lf, dstAt, Act.put, List.getElem?_toArray, List.getElem?_cons_zero, List.getElem?_cons_succ, Option.bind_some, List.setIfInBounds_toArray, List.set_cons_zero, List.set_cons_succ]
           simp only [e32, e37]
           clear e32 e37
           have d0 := ext_cell hx d0
           have d1 := ext_cell hx d1
           have d2 := ext_cell hx d2
           have d3 := ext_cell hx d3
           have d4 := ext_cell hx d4
           have d5 := ext_cell hx d5
           go_wp2
           exact ⟨rfl, Ext.refl _, rfl⟩
          ·intro vals w1 hx hd ha
           have e32 : vals 32 = .bool true := hd 32 (by decide)
           have e33 : vals 33 = .agg #[.int .i64 sa, .int .i64 sn, .int .i64 a, .int .i64 b, .int .i64 c', .int .i64 d] := hd 33 (by decide)
           have e38 : vals 38 = .agg #[.int .i64 ysa, .int .i64 ysn, .int .i64 ya, .int .i64 yb, .int .i64 yc, .int .i64 yd] := hd 38 (by decide)
           clear hd ha
           simp only [Lf, dstAt, Act.put, List.getElem?_toArray, List.getElem?_cons_zero, List.getElem?_cons_succ, Option.bind_some, List.setIfInBounds_toArray, List.set_cons_zero, List.set_cons_succ]
           simp only [e32]
           simp only [e33]
           simp only [e38]
           clear e32 e33 e38
           go_wp2_with fail
           refine (HLT.out _).mono ?_
           rintro e w2 ⟨rfl, hb2⟩
           go_wp2
           exact ⟨rfl, hb2, rfl⟩
          ·intro vals w1 hx hd ha
           have e29 : vals 29 = .bool false := hd 29 (by decide)
           have e32 : vals 32 = .bool true := hd 32 (by decide)
           have e39 : vals 39 = .bool lt := hd 39 (by decide)
           clear hd ha
           simp only [Lf, dstAt, Act.put, List.getElem?_toArray, List.getElem?_cons_zero, List.getElem?_cons_succ, Option.bind_some, List.setIfInBounds_toArray, List.set_cons_zero, List.set_cons_succ]
           simp only [e29, e32, e39]
           clear e29 e32 e39
           go_wp2
           exact ⟨rfl, Ext.refl _, rfl⟩
          ·intro vals w1 hx hd ha
           have e29 : vals 29 = .bool false := hd 29 (by decide)
           have e40 : vals 40 = .bool lt := hd 40 (by decide)
           clear hd ha
           simp only [Lf, dstAt, Act.put, List.getElem?_toArray, List.getElem?_cons_zero, List.getElem?_cons_succ, Option.bind_some, List.setIfInBounds_toArray, List.set_cons_zero, List.set_cons_succ]
           simp only [e29, e40]
           clear e29 e40
           go_wp2
           exact ⟨rfl, Ext.refl _, rfl⟩
         intro vals w5 hx hf
         have e41 : vals 41 = .bool lt := hf 41 (by omega)
         clear hf
         have hx := hx.undrew
         have hB5 := bl_then hB1 hx
         refine tail0 (by kernel_rfl) ?_
         simp only [Lf, dstAt, Act.put, List.getElem?_toArray, List.getElem?_cons_zero, List.getElem?_cons_succ, Option.bind_some, List.setIfInBounds_toArray, List.set_cons_zero, List.set_cons_succ]
         rw [e41]
         clear e41 g0 g1 g2 g3 g4 g5
         clear d0 d1 d2 d3 d4 d5
         cases lt
         ·go_wp2
          go_roundw
          case rel => exact ⟨k + 1, by omega, by go_num, Lib.hid (by rw [HN.out, HF.out, HP.out]; simp only [HLQ.out]; rfl), hB5⟩
          case measure => simp [intOf]; omega
         ·go_wp2
          go_ret
          exact ⟨by rw [HN.out, HF.out, HP.out]; simp only [HLQ.out]; rfl, hB5⟩
    ·have hF : (decide (a = 0 ∧ b = 0) || (decide (c' ≤ a) && decide (a < b) && decide (b ≤ d))) = true := by rw [h6]; rfl
     have HF := Lib.hid hF
     clear hF
     go_upto_region 10 with (go_at_call 78; refine (rin_any _ _ _ _).mono ?_; rintro e w' ⟨rfl, rfl⟩; first | rw [E1.out] | rw [E2.out])
     by_cases hk0 : k = 0
     ·have hk0' : (k : Int) ≤ 0 := by omega
      have hpv : prevAt l k = none := by simp [prevAt, hk0]
      have HP := Lib.hid hpv
      have hk0h := Lib.hid hk0
      have hkd : decide (0 < k) = false := by simp; omega
      have hke : decide ((0 : Int) < (k : Int)) = false := by simp; omega
      clear hpv hk0
      go_quiet (fail)
      have hB5 : Below w.heap.size w (W1.drewN nq) := (by repeat (first | exact Below.refl _ _ | assumption | refine Below.drew ?_ | refine below_drewN ?_ _ | refine bl_alloc ?_ _ | refine Below.setCell ?_ (by first | (simp; done) | omega | (simp; omega)) _ | refine bl_then ?_ (by assumption)))
      clear g0 g1 g2 g3 g4 g5
      go_wp2
      go_roundw
      case rel => exact ⟨k + 1, by omega, by go_num, Lib.hid (by rw [HN.out, HF.out, HP.out]; rfl), hB5⟩
      case measure => simp [intOf]; omega
     ·have hk1 : (0 : Int) < (k : Int) := by omega
      obtain ⟨b', o', hz', hA', hbl', hc'⟩ := RA.at_ pas_len (HR.out.below hB) (k := k - 1) (by omega)
      obtain ⟨rfl, rfl⟩ : b' = b_ ∧ o' = o := by injection hA' with hA'; injection hA' with h1 h2; exact ⟨h1.symm, h2.symm⟩
      have hpv : prevAt l k = some l[k - 1] := by unfold prevAt; rw [if_neg hk0, List.getElem?_eq_getElem hz']
      generalize l[k - 1] = y at hpv hc'
      obtain ⟨ysa, ysn, ⟨ya, yb⟩, ⟨yc, yd⟩⟩ := y
      have d0 : W1.cell? ⟨b', o' + (k - 1) * 6, none⟩ = some (.int .i64 ysa) := ext_cell HX1.out (hc' 0 (by omega))
      have d1 : W1.cell? ⟨b', o' + (k - 1) * 6 + 1, none⟩ = some (.int .i64 ysn) := ext_cell HX1.out (hc' 1 (by omega))
      have d2 : W1.cell? ⟨b', o' + (k - 1) * 6 + 2, none⟩ = some (.int .i64 ya) := ext_cell HX1.out (hc' 2 (by omega))
      have d3 : W1.cell? ⟨b', o' + (k - 1) * 6 + 3, none⟩ = some (.int .i64 yb) := ext_cell HX1.out (hc' 3 (by omega))
      have d4 : W1.cell? ⟨b', o' + (k - 1) * 6 + 4, none⟩ = some (.int .i64 yc) := ext_cell HX1.out (hc' 4 (by omega))
      have d5 : W1.cell? ⟨b', o' + (k - 1) * 6 + 5, none⟩ = some (.int .i64 yd) := ext_cell HX1.out (hc' 5 (by omega))
      have hlc := before_any sa sn a b c' d ysa ysn ya yb yc yd
      generalize hlq : ltOf cmpPas ⟨sa, sn, ⟨a, b⟩, ⟨c', d⟩⟩ ⟨ysa, ysn, ⟨ya, yb⟩, ⟨yc, yd⟩⟩ = lt at hlc
      have HLQ := Lib.hid hlq
      have HLT := Lib.hid hlc
      have HP := Lib.hid hpv
      have hk0h := Lib.hid hk0
      clear hpv hc' hA' hbl' hk0 hlc hlq
      have hki : IntKind.i64.wrap ((k : Int) - 1) = (k : Int) - 1 := IntWalk.i64_in _ (by omega)
      have hkn : ((k : Int) - 1).toNat = k - 1 := by omega
      have hkd : decide (0 < k) = true := by simp; omega
      refine wp_region_obl 42 (fun ix vals v w1 => match ix with | 0 => v = .bool true | 1 => v = .bool false | 2 => v = .bool false | 3 => v = undef | 4 => v = undef | 5 => v = undef | 6 => v = undef | 7 => v = undef | 8 => v = undef | 9 => v = undef | 10 => v = undef | 11 => v = undef | 12 => v = undef | 13 => v = undef | 14 => v = undef | 15 => v = undef | 16 => v = undef | 17 => v = undef | 18 => v = undef | 19 => v = undef | 20 => v = undef | 21 => v = undef | 22 => v = undef | 23 => v = undef | 24 => v = undef | 25 => v = undef | 26 => v = undef | 27 => v = undef | 28 => v = .bool false | 29 => v = .bool false | 30 => v = .int .i64 (k : Int) | 31 => v = .bool true | 32 => v = .bool true | 33 => v = .agg #[.int .i64 sa, .int .i64 sn, .int .i64 a, .int .i64 b, .int .i64 c', .int .i64 d] | 34 => v = .slice (some ⟨b', o', none⟩) n c | 35 => v = .int .i64 (k : Int) | 36 => v = .int .i64 ((k : Int) - 1) | 37 => v = .pointer (some ⟨b', o' + (k - 1) * 6, none⟩) | 38 => v = .agg #[.int .i64 ysa, .int .i64 ysn, .int .i64 ya, .int .i64 yb, .int .i64 yc, .int .i64 yd] | 39 => v = .bool lt | 40 => v = .bool lt | _ => v = .bool lt) (by kernel_rfl) (by kernel_rfl) ?_ ?_ ?_ ?_
      ·intro ix vals v w1 w2 hi hr hx
       match ix, hr with
       | 0, hr => exact hr
       | 1, hr => exact hr
       | 2, hr => exact hr
       | 3, hr => exact hr
       | 4, hr => exact hr
       | 5, hr => exact hr
       | 6, hr => exact hr
       | 7, hr => exact hr
       | 8, hr => exact hr
       | 9, hr => exact hr
       | 10, hr => exact hr
       | 11, hr => exact hr
       | 12, hr => exact hr
       | 13, hr => exact hr
       | 14, hr => exact hr
       | 15, hr => exact hr
       | 16, hr => exact hr
       | 17, hr => exact hr
       | 18, hr => exact hr
       | 19, hr => exact hr
       | 20, hr => exact hr
       | 21, hr => exact hr
       | 22, hr => exact hr
       | 23, hr => exact hr
       | 24, hr => exact hr
       | 25, hr => exact hr
       | 26, hr => exact hr
       | 27, hr => exact hr
       | 28, hr => exact hr
       | 29, hr => exact hr
       | 30, hr => exact hr
       | 31, hr => exact hr
       | 32, hr => exact hr
       | 33, hr => exact hr
       | 34, hr => exact hr
       | 35, hr => exact hr
       | 36, hr => exact hr
       | 37, hr => exact hr
       | 38, hr => exact hr
       | 39, hr => exact hr
       | 40, hr => exact hr
       | (kx + 41), hr => exact hr
      ·intro ix vals vals_ v w1 hi hv hr
       exact hr
      ·refine ⟨?_, ?_, ?_, ?_, ?_, ?_, ?_, ?_, ?_, ?_, ?_, ?_, ?_, ?_, ?_, ?_, ?_, ?_, ?_, ?_, ?_, ?_, ?_, ?_, ?_, ?_, ?_, ?_, ?_, ?_, ?_, ?_, ?_, ?_, ?_, ?_, ?_, ?_, ?_, ?_, ?_, ?_, trivial⟩
       ·intro vals w1 hx hd ha
        clear hd ha
        simp only [Lf]
        go_wp2
        exact ⟨rfl, Ext.refl _, rfl⟩
       ·intro vals w1 hx hd ha
        have e0 : vals 0 = .bool true := hd 0 (by decide)
        clear hd ha
        simp only [Lf, dstAt, Act.put, List.getElem?_toArray, List.getElem?_cons_zero, Option.bind_some, List.setIfInBounds_toArray, List.set_cons_zero, List.set_cons_succ]
        simp only [e0]
        clear e0
        go_wp2
        exact ⟨rfl, Ext.refl _, rfl⟩
       ·intro vals w1 hx hd ha
        have e1 : vals 1 = .bool false := hd 1 (by decide)
        clear hd ha
        simp only [Lf, dstAt, Act.put, List.getElem?_toArray, List.getElem?_cons_zero, List.getElem?_cons_succ, Option.bind_some, List.setIfInBounds_toArray, List.set_cons_zero, List.set_cons_succ]
        simp only [e1]
        clear e1
        go_wp2
        exact ⟨rfl, Ext.refl _, rfl⟩
       ·intro vals w1 hx hd ha
        have e2 : vals 2 = .bool false := hd 2 (by decide)
        clear hd ha
        simp only [Lf, dstAt, Act.put, List.getElem?_toArray, List.getElem?_cons_zero, List.getElem?_cons_succ, Option.bind_some, List.setIfInBounds_toArray, List.set_cons_zero, List.set_cons_succ]
        simp only [e2]
        clear e2
        go_wp2
        exact ⟨rfl, Ext.refl _, rfl⟩
       ·intro vals w1 hx hd ha
        have e2 : vals 2 = .bool false := hd 2 (by decide)
        have e3 : vals 3 = undef := hd 3 (by decide)
        clear hd ha
        simp only [Lf, dstAt, Act.put, List.getElem?_toArray, List.getElem?_cons_zero, List.getElem?_cons_succ, Option.bind_some, List.setIfInBounds_toArray, List.set_cons_zero, List.set_cons_succ]
        simp only [e2, e3]
        clear e2 e3
        go_wp2
        exact ⟨rfl, Ext.refl _, rfl⟩
       ·intro vals w1 hx hd ha
        have e2 : vals 2 = .bool false := hd 2 (by decide)
        have e4 : vals 4 = undef := hd 4 (by decide)
        clear hd ha
        simp only [Lf, dstAt, Act.put, List.getElem?_toArray, List.getElem?_cons_zero, List.getElem?_cons_succ, Option.bind_some, List.setIfInBounds_toArray, List.set_cons_zero, List.set_cons_succ]
        simp only [e2, e4]
        clear e2 e4
        go_wp2
        exact ⟨rfl, Ext.refl _, rfl⟩
       ·intro vals w1 hx hd ha
        have e2 : vals 2 = .bool false := hd 2 (by decide)
        clear hd ha
        simp only [Lf, dstAt, Act.put, List.getElem?_toArray, List.getElem?_cons_zero, List.getElem?_cons_succ, Option.bind_some, List.setIfInBounds_toArray, List.set_cons_zero, List.set_cons_succ]
        simp only [e2]
        clear e2
        go_wp2
        exact ⟨rfl, Ext.refl _, rfl⟩
       ·intro vals w1 hx hd ha
        have e2 : vals 2 = .bool false := hd 2 (by decide)
        have e6 : vals 6 = undef := hd 6 (by decide)
        clear hd ha
        simp only [Lf, dstAt, Act.put, List.getElem?_toArray, List.getElem?_cons_zero, List.getElem?_cons_succ, Option.bind_some, List.setIfInBounds_toArray, List.set_cons_zero, List.set_cons_succ]
        simp only [e2, e6]
        clear e2 e6
        go_wp2
        exact ⟨rfl, Ext.refl _, rfl⟩
       ·intro vals w1 hx hd ha
        have e2 : vals 2 = .bool false := hd 2 (by decide)
        have e7 : vals 7 = undef := hd 7 (by decide)
        clear hd ha
        simp only [Lf, dstAt, Act.put, List.getElem?_toArray, List.getElem?_cons_zero, List.getElem?_cons_succ, Option.bind_some, List.setIfInBounds_toArray, List.set_cons_zero, List.set_cons_succ]
        simp only [e2, e7]
        clear e2 e7
        go_wp2
        exact ⟨rfl, Ext.refl _, rfl⟩
       ·intro vals w1 hx hd ha
        have e2 : vals 2 = .bool false := hd 2 (by decide)
        have e5 : vals 5 = undef := hd 5 (by decide)
        have e8 : vals 8 = undef := hd 8 (by decide)
        clear hd ha
        simp only [Lf, dstAt, Act.put, List.getElem?_toArray, List.getElem?_cons_zero, List.getElem?_cons_succ, Option.bind_some, List.setIfInBounds_toArray, List.set_cons_zero, List.set_cons_succ]
        simp only [e2, e5, e8]
        clear e2 e5 e8
        go_wp2
        exact ⟨rfl, Ext.refl _, rfl⟩
       ·intro vals w1 hx hd ha
        have e2 : vals 2 = .bool false := hd 2 (by decide)
        have e9 : vals 9 = undef := hd 9 (by decide)
        clear hd ha
        simp only [Lf, dstAt, Act.put, List.getElem?_toArray, List.getElem?_cons_zero, List.getElem?_cons_succ, Option.bind_some, List.setIfInBounds_toArray, List.set_cons_zero, List.set_cons_succ]
        simp only [e2, e9]
        clear e2 e9
        go_wp2
        exact ⟨rfl, Ext.refl _, rfl⟩
       ·intro vals w1 hx hd ha
        have e10 : vals 10 = undef := hd 10 (by decide)
        clear hd ha
        simp only [Lf, dstAt, Act.put, List.getElem?_toArray, List.getElem?_cons_zero, List.getElem?_cons_succ, Option.bind_some, List.setIfInBounds_toArray, List.set_cons_zero, List.set_cons_succ]
        simp only [e10]
        clear e10
        go_wp2
        exact ⟨rfl, Ext.refl _, rfl⟩
       ·intro vals w1 hx hd ha
        have e10 : vals 10 = undef := hd 10 (by decide)
        have e11 : vals 11 = undef := hd 11 (by decide)
        clear hd ha
        simp only [Lf, dstAt, Act.put, List.getElem?_toArray, List.getElem?_cons_zero, List.getElem?_cons_succ, Option.bind_some, List.setIfInBounds_toArray, List.set_cons_zero, List.set_cons_succ]
        simp only [e10, e11]
        clear e10 e11
        go_wp2
        exact ⟨rfl, Ext.refl _, rfl⟩
       ·intro vals w1 hx hd ha
        have e10 : vals 10 = undef := hd 10 (by decide)
        have e12 : vals 12 = undef := hd 12 (by decide)
        clear hd ha
        simp only [Lf, dstAt, Act.put, List.getElem?_toArray, List.getElem?_cons_zero, List.getElem?_cons_succ, Option.bind_some, List.setIfInBounds_toArray, List.set_cons_zero, List.set_cons_succ]
        simp only [e10, e12]
        clear e10 e12
        go_wp2
        exact ⟨rfl, Ext.refl _, rfl⟩
       ·intro vals w1 hx hd ha
        have e10 : vals 10 = undef := hd 10 (by decide)
        clear hd ha
        simp only [Lf, dstAt, Act.put, List.getElem?_toArray, List.getElem?_cons_zero, List.getElem?_cons_succ, Option.bind_some, List.setIfInBounds_toArray, List.set_cons_zero, List.set_cons_succ]
        simp only [e10]
        clear e10
        go_wp2
        exact ⟨rfl, Ext.refl _, rfl⟩
       ·intro vals w1 hx hd ha
        have e10 : vals 10 = undef := hd 10 (by decide)
        have e14 : vals 14 = undef := hd 14 (by decide)
        clear hd ha
        simp only [Lf, dstAt, Act.put, List.getElem?_toArray, List.getElem?_cons_zero, List.getElem?_cons_succ, Option.bind_some, List.setIfInBounds_toArray, List.set_cons_zero, List.set_cons_succ]
        simp only [e10, e14]
        clear e10 e14
        go_wp2
        exact ⟨rfl, Ext.refl _, rfl⟩
       ·intro vals w1 hx hd ha
        have e10 : vals 10 = undef := hd 10 (by decide)
        have e15 : vals 15 = undef := hd 15 (by decide)
        clear hd ha
        simp only [Lf, dstAt, Act.put, List.getElem?_toArray, List.getElem?_cons_zero, List.getElem?_cons_succ, Option.bind_some, List.setIfInBounds_toArray, List.set_cons_zero, List.set_cons_succ]
        simp only [e10, e15]
        clear e10 e15
        go_wp2
        exact ⟨rfl, Ext.refl _, rfl⟩
       ·intro vals w1 hx hd ha
        have e10 : vals 10 = undef := hd 10 (by decide)
        have e13 : vals 13 = undef := hd 13 (by decide)
        have e16 : vals 16 = undef := hd 16 (by decide)
        clear hd ha
        simp only [Lf, dstAt, Act.put, List.getElem?_toArray, List.getElem?_cons_zero, List.getElem?_cons_succ, Option.bind_some, List.setIfInBounds_toArray, List.set_cons_zero, List.set_cons_succ]
        simp only [e10, e13, e16]
        clear e10 e13 e16
        go_wp2
        exact ⟨rfl, Ext.refl _, rfl⟩
       ·intro vals w1 hx hd ha
        have e2 : vals 2 = .bool false := hd 2 (by decide)
        have e10 : vals 10 = undef := hd 10 (by decide)
        have e17 : vals 17 = undef := hd 17 (by decide)
        clear hd ha
        simp only [Lf, dstAt, Act.put, List.getElem?_toArray, List.getElem?_cons_zero, List.getElem?_cons_succ, Option.bind_some, List.setIfInBounds_toArray, List.set_cons_zero, List.set_cons_succ]
        simp only [e2, e10, e17]
        clear e2 e10 e17
        go_wp2
        exact ⟨rfl, Ext.refl _, rfl⟩
       ·intro vals w1 hx hd ha
        have e2 : vals 2 = .bool false := hd 2 (by decide)
        have e10 : vals 10 = undef := hd 10 (by decide)
        have e18 : vals 18 = undef := hd 18 (by decide)
        clear hd ha
        simp only [Lf, dstAt, Act.put, List.getElem?_toArray, List.getElem?_cons_zero, List.getElem?_cons_succ, Option.bind_some, List.setIfInBounds_toArray, List.set_cons_zero, List.set_cons_succ]
        simp only [e2, e10, e18]
        clear e2 e10 e18
        go_wp2
        exact ⟨rfl, Ext.refl _, rfl⟩
       ·intro vals w1 hx hd ha
        have e19 : vals 19 = undef := hd 19 (by decide)
        clear hd ha
        simp only [Lf, dstAt, Act.put, List.getElem?_toArray, List.getElem?_cons_zero, List.getElem?_cons_succ, Option.bind_some, List.setIfInBounds_toArray, List.set_cons_zero, List.set_cons_succ]
        simp only [e19]
        clear e19
        go_wp2
        exact ⟨rfl, Ext.refl _, rfl⟩
       ·intro vals w1 hx hd ha
        have e19 : vals 19 = undef := hd 19 (by decide)
        have e20 : vals 20 = undef := hd 20 (by decide)
        clear hd ha
        simp only [Lf, dstAt, Act.put, List.getElem?_toArray, List.getElem?_cons_zero, List.getElem?_cons_succ, Option.bind_some, List.setIfInBounds_toArray, List.set_cons_zero, List.set_cons_succ]
        simp only [e19, e20]
        clear e19 e20
        go_wp2
        exact ⟨rfl, Ext.refl _, rfl⟩
       ·intro vals w1 hx hd ha
        have e19 : vals 19 = undef := hd 19 (by decide)
        have e21 : vals 21 = undef := hd 21 (by decide)
        clear hd ha
        simp only [Lf, dstAt, Act.put, List.getElem?_toArray, List.getElem?_cons_zero, List.getElem?_cons_succ, Option.bind_some, List.setIfInBounds_toArray, List.set_cons_zero, List.set_cons_succ]
        simp only [e19, e21]
        clear e19 e21
        go_wp2
        exact ⟨rfl, Ext.refl _, rfl⟩
       ·intro vals w1 hx hd ha
        have e19 : vals 19 = undef := hd 19 (by decide)
        clear hd ha
        simp only [Lf, dstAt, Act.put, List.getElem?_toArray, List.getElem?_cons_zero, List.getElem?_cons_succ, Option.bind_some, List.setIfInBounds_toArray, List.set_cons_zero, List.set_cons_succ]
        simp only [e19]
        clear e19
        go_wp2
        exact ⟨rfl, Ext.refl _, rfl⟩
       ·intro vals w1 hx hd ha
        have e19 : vals 19 = undef := hd 19 (by decide)
        have e23 : vals 23 = undef := hd 23 (by decide)
        clear hd ha
        simp only [Lf, dstAt, Act.put, List.getElem?_toArray, List.getElem?_cons_zero, List.getElem?_cons_succ, Option.bind_some, List.setIfInBounds_toArray, List.set_cons_zero, List.set_cons_succ]
        simp only [e19, e23]
        clear e19 e23
        go_wp2
        exact ⟨rfl, Ext.refl _, rfl⟩
       ·intro vals w1 hx hd ha
        have e19 : vals 19 = undef := hd 19 (by decide)
        have e24 : vals 24 = undef := hd 24 (by decide)
        clear hd ha
        simp only [Lf, dstAt, Act.put, List.getElem?_toArray, List.getElem?_cons_zero, List.getElem?_cons_succ, Option.bind_some, List.setIfInBounds_toArray, List.set_cons_zero, List.set_cons_succ]
        simp only [e19, e24]
        clear e19 e24
        go_wp2
        exact ⟨rfl, Ext.refl _, rfl⟩
       ·intro vals w1 hx hd ha
        have e19 : vals 19 = undef := hd 19 (by decide)
        have e22 : vals 22 = undef := hd 22 (by decide)
        have e25 : vals 25 = undef := hd 25 (by decide)
        clear hd ha
        simp only [Lf, dstAt, Act.put, List.getElem?_toArray, List.getElem?_cons_zero, List.getElem?_cons_succ, Option.bind_some, List.setIfInBounds_toArray, List.set_cons_zero, List.set_cons_succ]
        simp only [e19, e22, e25]
        clear e19 e22 e25
        go_wp2
        exact ⟨rfl, Ext.refl _, rfl⟩
       ·intro vals w1 hx hd ha
        have e2 : vals 2 = .bool false := hd 2 (by decide)
        have e19 : vals 19 = undef := hd 19 (by decide)
        have e26 : vals 26 = undef := hd 26 (by decide)
        clear hd ha
        simp only [Lf, dstAt, Act.put, List.getElem?_toArray, List.getElem?_cons_zero, List.getElem?_cons_succ, Option.bind_some, List.setIfInBounds_toArray, List.set_cons_zero, List.set_cons_succ]
        simp only [e2, e19, e26]
        clear e2 e19 e26
        go_wp2
        exact ⟨rfl, Ext.refl _, rfl⟩
       ·intro vals w1 hx hd ha
        have e2 : vals 2 = .bool false := hd 2 (by decide)
        have e27 : vals 27 = undef := hd 27 (by decide)
        clear hd ha
        simp only [Lf, dstAt, Act.put, List.getElem?_toArray, List.getElem?_cons_zero, List.getElem?_cons_succ, Option.bind_some, List.setIfInBounds_toArray, List.set_cons_zero, List.set_cons_succ]
        simp only [e2, e27]
        clear e2 e27
        go_wp2
        exact ⟨rfl, Ext.refl _, rfl⟩
       ·intro vals w1 hx hd ha
        have e19 : vals 19 = undef := hd 19 (by decide)
        have e28 : vals 28 = .bool false := hd 28 (by decide)
        clear hd ha
        simp only [Lf, dstAt, Act.put, List.getElem?_toArray, List.getElem?_cons_zero, List.getElem?_cons_succ, Option.bind_some, List.setIfInBounds_toArray, List.set_cons_zero, List.set_cons_succ]
        simp only [e19, e28]
        clear e19 e28
        go_wp2
        exact ⟨rfl, Ext.refl _, rfl⟩
       ·intro vals w1 hx hd ha
        have e29 : vals 29 = .bool false := hd 29 (by decide)
        clear hd ha
        simp only [Lf, dstAt, Act.put, List.getElem?_toArray, List.getElem?_cons_zero, List.getElem?_cons_succ, Option.bind_some, List.setIfInBounds_toArray, List.set_cons_zero, List.set_cons_succ]
        simp only [e29]
        clear e29
        go_wp2
        exact ⟨rfl, Ext.refl _, rfl⟩
       ·intro vals w1 hx hd ha
        have e29 : vals 29 = .bool false := hd 29 (by decide)
        have e30 : vals 30 = .int .i64 (k : Int) := hd 30 (by decide)
        clear hd ha
        simp only [Lf, dstAt, Act.put, List.getElem?_toArray, List.getElem?_cons_zero, List.getElem?_cons_succ, Option.bind_some, List.setIfInBounds_toArray, List.set_cons_zero, List.set_cons_succ]
        simp only [e29, e30]
        clear e29 e30
        go_wp2
        exact ⟨rfl, Ext.refl _, rfl⟩
       ·intro vals w1 hx hd ha
        have e29 : vals 29 = .bool false := hd 29 (by decide)
        have e31 : vals 31 = .bool true := hd 31 (by decide)
        clear hd ha
        simp only [Lf, dstAt, Act.put, List.getElem?_toArray, List.getElem?_cons_zero, List.getElem?_cons_succ, Option.bind_some, List.setIfInBounds_toArray, List.set_cons_zero, List.set_cons_succ]
        simp only [e29, e31]
        clear e29 e31
        go_wp2
        exact ⟨rfl, Ext.refl _, rfl⟩
       ·intro vals w1 hx hd ha
        have e32 : vals 32 = .bool true := hd 32 (by decide)
        clear hd ha
        simp only [Lf, dstAt, Act.put, List.getElem?_toArray, List.getElem?_cons_zero, List.getElem?_cons_succ, Option.bind_some, List.setIfInBounds_toArray, List.set_cons_zero, List.set_cons_succ]
        simp only [e32]
        clear e32
        have g0 := ext_cell hx g0
        have g1 := ext_cell hx g1
        have g2 := ext_cell hx g2
        have g3 := ext_cell hx g3
        have g4 := ext_cell hx g4
        have g5 := ext_cell hx g5
        go_wp2
        exact ⟨rfl, Ext.refl _, rfl⟩
       ·intro vals w1 hx hd ha
        have e32 : vals 32 = .bool true := hd 32 (by decide)
        clear hd ha
        simp only [Lf, dstAt, Act.put, List.getElem?_toArray, List.getElem?_cons_zero, List.getElem?_cons_succ, Option.bind_some, List.setIfInBounds_toArray, List.set_cons_zero, List.set_cons_succ]
        simp only [e32]
        clear e32
        go_wp2
        exact ⟨rfl, Ext.refl _, rfl⟩
       ·intro vals w1 hx hd ha
        have e32 : vals 32 = .bool true := hd 32 (by decide)
        clear hd ha
        simp only [Lf, dstAt, Act.put, List.getElem?_toArray, List.getElem?_cons_zero, List.getElem?_cons_succ, Option.bind_some, List.setIfInBounds_toArray, List.set_cons_zero, List.set_cons_succ]
        simp only [e32]
        clear e32
        go_wp2
        exact ⟨rfl, Ext.refl _, rfl⟩
       ·intro vals w1 hx hd ha
        have e32 : vals 32 = .bool true := hd 32 (by decide)
        have e35 : vals 35 = .int .i64 (k : Int) := hd 35 (by decide)
        clear hd ha
        simp only [Lf, dstAt, Act.put, List.getElem?_toArray, List.getElem?_cons_zero, List.getElem?_cons_succ, Option.bind_some, List.setIfInBounds_toArray, List.set_cons_zero, List.set_cons_succ]
        simp only [e32, e35]
        clear e32 e35
        go_wp2
        exact ⟨rfl, Ext.refl _, rfl⟩
       ·intro vals w1 hx hd ha
        have e32 : vals 32 = .bool true := hd 32 (by decide)
        have e34 : vals 34 = .slice (some ⟨b', o', none⟩) n c := hd 34 (by decide)
        have e36 : vals 36 = .int .i64 ((k : Int) - 1) := hd 36 (by decide)
        clear hd ha
        simp only [Lf, dstAt, Act.put, List.getElem?_toArray, List.getElem?_cons_zero, List.getElem?_cons_succ, Option.bind_some, List.setIfInBounds_toArray, List.set_cons_zero, List.set_cons_succ]
        simp only [e32, e34, e36]
        clear e32 e34 e36
        go_wp2
        exact ⟨rfl, Ext.refl _, rfl⟩
       ·intro vals w1 hx hd ha
        have e32 : vals 32 = .bool true := hd 32 (by decide)
        have e37 : vals 37 = .pointer (some ⟨b', o' + (k - 1) * 6, none⟩) := hd 37 (by decide)
        clear hd ha
        simp only [Lf, dstAt, Act.put, List.getElem?_toArray, List.getElem?_cons_zero, List.getElem?_cons_succ, Option.bind_some, List.setIfInBounds_toArray, List.set_cons_zero, List.set_cons_succ]
        simp only [e32, e37]
        clear e32 e37
        have d0 := ext_cell hx d0
        have d1 := ext_cell hx d1
        have d2 := ext_cell hx d2
        have d3 := ext_cell hx d3
        have d4 := ext_cell hx d4
        have d5 := ext_cell hx d5
        go_wp2
        exact ⟨rfl, Ext.refl _, rfl⟩
       ·intro vals w1 hx hd ha
        have e32 : vals 32 = .bool true := hd 32 (by decide)
        have e33 : vals 33 = .agg #[.int .i64 sa, .int .i64 sn, .int .i64 a, .int .i64 b, .int .i64 c', .int .i64 d] := hd 33 (by decide)
        have e38 : vals 38 = .agg #[.int .i64 ysa, .int .i64 ysn, .int .i64 ya, .int .i64 yb, .int .i64 yc, .int .i64 yd] := hd 38 (by decide)
        clear hd ha
        simp only [Lf, dstAt, Act.put, List.getElem?_toArray, List.getElem?_cons_zero, List.getElem?_cons_succ, Option.bind_some, List.setIfInBounds_toArray, List.set_cons_zero, List.set_cons_succ]
        simp only [e32]
        simp only [e33]
        simp only [e38]
        clear e32 e33 e38
        go_wp2_with fail
        refine (HLT.out _).mono ?_
        rintro e w2 ⟨rfl, hb2⟩
        go_wp2
        exact ⟨rfl, hb2, rfl⟩
       ·intro vals w1 hx hd ha
        have e29 : vals 29 = .bool false := hd 29 (by decide)
        have e32 : vals 32 = .bool true := hd 32 (by decide)
        have e39 : vals 39 = .bool lt := hd 39 (by decide)
        clear hd ha
        simp only [Lf, dstAt, Act.put, List.getElem?_toArray, List.getElem?_cons_zero, List.getElem?_cons_succ, Option.bind_some, List.setIfInBounds_toArray, List.set_cons_zero, List.set_cons_succ]
        simp only [e29, e32, e39]
        clear e29 e32 e39
        go_wp2
        exact ⟨rfl, Ext.refl _, rfl⟩
       ·intro vals w1 hx hd ha
        have e29 : vals 29 = .bool false := hd 29 (by decide)
        have e40 : vals 40 = .bool lt := hd 40 (by decide)
        clear hd ha
        simp only [Lf, dstAt, Act.put, List.getElem?_toArray, List.getElem?_cons_zero, List.getElem?_cons_succ, Option.bind_some, List.setIfInBounds_toArray, List.set_cons_zero, List.set_cons_succ]
        simp only [e29, e40]
        clear e29 e40
        go_wp2
        exact ⟨rfl, Ext.refl _, rfl⟩
      intro vals w5 hx hf
      have e41 : vals 41 = .bool lt := hf 41 (by omega)
      clear hf
      have hx := hx.undrew
      have hB5 := bl_then hB1 hx
      refine tail0 (by kernel_rfl) ?_
      simp only [Lf, dstAt, Act.put, List.getElem?_toArray, List.getElem?_cons_zero, List.getElem?_cons_succ, Option.bind_some, List.setIfInBounds_toArray, List.set_cons_zero, List.set_cons_succ]
      rw [e41]
      clear e41 g0 g1 g2 g3 g4 g5
      clear d0 d1 d2 d3 d4 d5
      cases lt
      ·go_wp2
       go_roundw
       case rel => exact ⟨k + 1, by omega, by go_num, Lib.hid (by rw [HN.out, HF.out, HP.out]; simp only [HLQ.out]; rfl), hB5⟩
       case measure => simp [intOf]; omega
      ·go_wp2
       go_ret
       exact ⟨by rw [HN.out, HF.out, HP.out]; simp only [HLQ.out]; rfl, hB5⟩
   ·go_wp2
    go_ret
    exact ⟨by rw [HK.out, List.drop_of_length_le (by rw [HL.out]; omega)]; rfl, hB⟩
 ·have hd : decide (n ≤ 64) = false := by simpa using hn
  rw [hd, Bool.false_and]
  clear hd
  go_enter Try.func43, Try.ntmps43
  go_wp2
  go_ret
  exact ⟨rfl, (by repeat (first | exact Below.refl _ _ | assumption | refine Below.drew ?_ | refine below_drewN ?_ _ | refine bl_alloc ?_ _ | refine Below.setCell ?_ (by first | (simp; done) | omega | (simp; omega)) _ | refine bl_then ?_ (by assumption)))⟩
end Go.Proofs.Ytmlabgmigakcbaa
