/- Which slot is confirmed. -/
import Derived.Test.YtmlabgmigakcbaaS1
namespace Go.Proofs.Ytmlabgmigakcbaa
open Go.RowKit

def setR (pn : Nat) : Int → List Int → Bool
  | _, [] => true
  | p, x :: r => decide (p < x ∧ x < pn) && setR pn x r
theorem setR_cons (pn : Nat) (p x : Int) (r : List Int) : setR pn p (x :: r) = (decide (p < x ∧ x < pn) && setR pn x r) := by rw [setR]
def hasI (l : List Int) (x : Int) : Bool := l.any (fun y => decide (x = y))
def sentI (lost : List Int) : Nat → List Slt → Int
  | _, [] => -1
  | i, s :: r => if hasI lost s.p then sentI lost (i + 1) r else i
theorem sentI_cons (lost : List Int) (i : Nat) (s : Slt) (r : List Slt) : sentI lost i (s :: r) = if hasI lost s.p then sentI lost (i + 1) r else (i : Int) := by rw [sentI]
def sentOK (o : Opt) (ps : List Pas) (lost : List Int) : Bool := (properP ps && lossOK ps o.l) && (setR ps.length (-1) lost && properP ps)
def sentV (o : Opt) (ps : List Pas) (lost : List Int) : Int × Int := if sentOK o ps lost then (sentI lost 0 o.l, 0) else (0, 180)

set_option maxRecDepth 100000 in
set_option maxHeartbeats 4000000 in
theorem isSet_any (ps : List Pas) (lost : List Int) (PA LA : Option Addr) (pn pc n c : Nat) (w : World) (hp : RA pasCells 6 w w.heap.size PA pn pc ps) (hl : RA intCells 1 w w.heap.size LA n c lost) :
    Calls Try.prog 64 #[.slice PA pn pc, .slice LA n c] w fun e w' => e = .returned (.bool (setR ps.length (-1) lost && properP ps)) ∧ Ext w w' := by
  have hle := hl.le
  have hple := hp.le
  have HPR := Lib.hid (fun (W : World) (hW : Ext w W) => proper_any ps PA pn pc W (ra_ext hp hW))
  have HL := Lib.hid hl
  rw [hp.len]
  obtain ⟨fin, hfin⟩ : ∃ x, x = (setR pn (-1) lost && properP ps) := ⟨_, rfl⟩
  rw [← hfin]
  have HF0 : Hid (fin = (setR pn (-1) (lost.drop 0) && properP ps)) := Lib.hid hfin
  clear hfin hp hl
  go_enter Try.func64, Try.ntmps64
  go_wp2
  go_loopw [9] (fun y wr => ∃ (k : Nat) (p : Int), k ≤ n ∧ y = .int .i64 k ∧ Hid (fin = (setR pn p (lost.drop k) && properP ps)) ∧ (k = 0 → p = -1) ∧ (0 < k → 0 ≤ p ∧ Hid (∀ b o, LA = some ⟨b, o, none⟩ → w.cell? ⟨b, o + (k - 1), none⟩ = some (.int .i64 p))) ∧ wr = w) (fun y _ => n - (intOf y).toNat)
  case atStart => exact ⟨0, -1, Nat.zero_le _, rfl, HF0, fun _ => rfl, fun h => absurd h (by omega), rfl⟩
  case round =>
    clear HF0
    obtain ⟨k, p, hk, rfl, HF, hp0, hp1, rfl⟩ := hrel
    by_cases hkn : k < n
    · obtain ⟨b, ob, hz, hA, _, hc⟩ := HL.out.at_ int_len hkn
      have hst := HF.out
      rw [List.drop_eq_getElem_cons hz, setR_cons] at hst
      have hc1 : ∀ b' o', LA = some ⟨b', o', none⟩ → wr.cell? ⟨b', o' + k, none⟩ = some (.int .i64 lost[k]) := by
        intro b' o' e
        rw [hA] at e
        injection e with e
        injection e with e1 e2 _
        subst e1 e2
        have := hc 0 (by omega)
        rw [Nat.mul_one] at this
        exact this
      generalize lost[k] = x at hst hc hc1
      have c0 : wr.cell? ⟨b, ob + k, none⟩ = some (.int .i64 x) := hc1 b ob hA
      have HC1 := Lib.hid hc1
      have HST := Lib.hid hst
      have hp1' : 0 < k → 0 ≤ p ∧ wr.cell? ⟨b, ob + (k - 1), none⟩ = some (.int .i64 p) := fun h => ⟨(hp1 h).1, (hp1 h).2.out b ob hA⟩
      clear hc hz hst hc1 hp1 HF
      have HLA := Lib.hid hA
      clear HL
      subst hA
      by_cases hx0 : x < 0
      · have hff : fin = false := by rw [HST.out, decide_eq_false (by intro h; rcases Nat.eq_zero_or_pos k with e | e; (have := hp0 e; omega); (have := (hp1' e).1; omega))]; rfl
        have HFF := Lib.hid hff
        clear hff HST hp0 hp1'
        go_wp2
        go_ret
        exact ⟨by rw [HFF.out]; rfl, Ext.refl _⟩
      · by_cases hxn : (pn : Int) ≤ x
        · have hff : fin = false := by rw [HST.out, decide_eq_false (by omega)]; rfl
          have HFF := Lib.hid hff
          clear hff HST hp0 hp1'
          go_wp2
          go_ret
          exact ⟨by rw [HFF.out]; rfl, Ext.refl _⟩
        · by_cases hk0 : k = 0
          · subst hk0
            have hp := hp0 rfl
            subst hp
            have HN2 : Hid (fin = (setR pn x (lost.drop 1) && properP ps)) := Lib.hid (by rw [HST.out, decide_eq_true (by omega)]; rfl)
            have c0' : wr.cell? ⟨b, ob, none⟩ = some (.int .i64 x) := c0
            clear HST hp0 hp1' c0
            go_wp2
            go_roundw
            case rel => exact ⟨1, x, by omega, by go_num, HN2, fun h => absurd h (by omega), fun _ => ⟨by omega, Lib.hid (fun b' o' e => HC1.out b' o' e)⟩, (by first | rfl | trivial)⟩
            case measure => simp [intOf]; omega
          · obtain ⟨hpn, cp⟩ := hp1' (by omega)
            have hk1 : ((k : Int) - 1).toNat = k - 1 := by omega
            have hk2 : (0 : Int) < (k : Int) := by omega
            have hk3 : (0 : Int) ≤ (k : Int) - 1 := by omega
            have hk4 : (k : Int) - 1 < (n : Int) := by omega
            obtain ⟨k1, hk5⟩ : ∃ k1, k = k1 + 1 := ⟨k - 1, by omega⟩
            subst hk5
            have cp' : wr.cell? ⟨b, ob + k1, none⟩ = some (.int .i64 p) := cp
            clear cp hp0 hp1'
            by_cases hxp : x ≤ p
            · have hff : fin = false := by rw [HST.out, decide_eq_false (by omega)]; rfl
              have HFF := Lib.hid hff
              clear hff HST
              go_wp2
              go_ret
              exact ⟨by rw [HFF.out]; rfl, Ext.refl _⟩
            · have HN2 : Hid (fin = (setR pn x (lost.drop (k1 + 1 + 1)) && properP ps)) := Lib.hid (by rw [HST.out, decide_eq_true (by omega)]; rfl)
              clear HST
              go_wp2
              go_roundw
              case rel => exact ⟨k1 + 1 + 1, x, by omega, by go_num, HN2, fun h => absurd h (by omega), fun _ => ⟨by omega, Lib.hid (fun b' o' e => HC1.out b' o' e)⟩, (by first | rfl | trivial)⟩
              case measure => simp [intOf]; omega
    · have hst := HF.out
      rw [List.drop_of_length_le (by rw [HL.out.len]; omega), setR, Bool.true_and] at hst
      have HST := Lib.hid hst
      have HC := Lib.hid (HPR.out wr (Ext.refl _))
      clear hst HF hp0 hp1
      go_wp2_with fail
      refine HC.out.mono ?_
      rintro e W ⟨rfl, hy⟩
      go_wp2
      go_ret
      exact ⟨by rw [HST.out]; rfl, hy⟩

theorem indexI_any (lost : List Int) (x : Int) (LA : Option Addr) (n c : Nat) (w : World) (hl : RA intCells 1 w w.heap.size LA n c lost) :
    Calls Try.prog 89 #[.slice LA n c, .int .i64 x] w fun e w' => ∃ z : Int, e = .returned (.int .i64 z) ∧ decide (z ≥ 0) = hasI lost x ∧ w = w' := by
  have hle := hl.le
  have HL := Lib.hid hl
  obtain ⟨fin, hfin⟩ : ∃ y, y = hasI lost x := ⟨_, rfl⟩
  rw [← hfin]
  have HF0 : Hid (fin = hasI (lost.drop 0) x) := Lib.hid hfin
  clear hfin hl
  go_enter Try.func89, Try.ntmps89
  go_wp2
  go_loopw [8] (fun y wr => ∃ k : Nat, k ≤ n ∧ y = .int .i64 k ∧ Hid (fin = hasI (lost.drop k) x) ∧ wr = w) (fun y _ => n - (intOf y).toNat)
  case atStart => exact ⟨0, Nat.zero_le _, rfl, HF0, rfl⟩
  case round =>
    clear HF0
    obtain ⟨k, hk, rfl, HF, rfl⟩ := hrel
    by_cases hkn : k < n
    · obtain ⟨b, ob, hz, hA, _, hc⟩ := HL.out.at_ int_len hkn
      have hst := HF.out
      rw [List.drop_eq_getElem_cons hz] at hst
      have hst2 : fin = (decide (x = lost[k]) || hasI (lost.drop (k + 1)) x) := hst
      have c0 : wr.cell? ⟨b, ob + k, none⟩ = some (.int .i64 lost[k]) := by have := hc 0 (by omega); rw [Nat.mul_one] at this; exact this
      generalize lost[k] = y at hst2 c0
      have HST := Lib.hid hst2
      subst hA
      clear hc hz hst hst2 HF
      by_cases hxy : x = y
      · have hft : fin = true := by rw [HST.out, decide_eq_true hxy]; rfl
        have HFT := Lib.hid hft
        subst hxy
        clear hft HST
        go_wp2
        go_ret
        exact ⟨k, rfl, by rw [HFT.out]; simp, rfl⟩
      · have HN2 : Hid (fin = hasI (lost.drop (k + 1)) x) := Lib.hid (by rw [HST.out, decide_eq_false hxy]; rfl)
        have hxy1 : (x == y) = false := by simpa using hxy
        clear HST
        go_wp2
        go_roundw
        case rel => exact ⟨k + 1, by omega, by go_num, HN2, (by first | rfl | trivial)⟩
        case measure => simp [intOf]; omega
    · have hff : fin = false := by rw [HF.out, List.drop_of_length_le (by rw [HL.out.len]; omega)]; rfl
      have HFF := Lib.hid hff
      clear hff HF
      go_wp2
      go_ret
      exact ⟨-1, rfl, by rw [HFF.out]; rfl, rfl⟩
theorem containsI_any (lost : List Int) (x : Int) (LA : Option Addr) (n c : Nat) (w : World) (hl : RA intCells 1 w w.heap.size LA n c lost) :
    Calls Try.prog 67 #[.slice LA n c, .int .i64 x] w fun e w' => e = .returned (.bool (hasI lost x)) ∧ w = w' := by
  have HI := Lib.hid (indexI_any lost x LA n c w hl)
  generalize hasI lost x = q at HI ⊢
  clear hl
  go_enter Try.func67, Try.ntmps67
  go_wp2_with fail
  refine HI.out.mono ?_
  rintro e W ⟨z, rfl, hz, rfl⟩
  have HZ := Lib.hid hz
  clear HI hz
  go_wp2
  go_ret
  exact ⟨by rw [← HZ.out]; rfl, rfl⟩
theorem sent1_any (s : Slt) (lost : List Int) (LA : Option Addr) (n c g : Nat) (w : World) (hl : RA intCells 1 w w.heap.size LA n c lost) (hg : Blk w g 25 #[.slice LA n c]) :
    Calls Try.prog 66 #[.agg (sltCells s).toArray, .pointer (some ⟨g, 0, none⟩)] w fun e w' => e = .returned (.bool (!hasI lost s.p)) ∧ Ext w w' := by
  have HC := Lib.hid (fun (W : World) (hW : Ext w W) => containsI_any lost s.p LA n c W (ra_ext hl hW))
  obtain ⟨sp, sf, st⟩ := s
  dsimp only at HC ⊢
  generalize hasI lost sp = q at HC ⊢
  have d0 : w.cell? ⟨g, 0, none⟩ = some (.slice LA n c) := hg.cell 0
  have hlt := hg.lt
  clear hl
  show Calls Try.prog 66 #[.agg #[.int .i64 sp, .int .i64 sf, .int .i64 st], .pointer (some ⟨g, 0, none⟩)] w _
  go_enter Try.func66, Try.ntmps66
  go_upto_region 1 with (fail)
  have hx : Ext w (w.alloc (.cells #[.int .i64 sp, .int .i64 sf, .int .i64 st] 78)) := bl_alloc (Below.refl _ _) _
  have J := Blk.new w 78 #[.int .i64 sp, .int .i64 sf, .int .i64 st]
  generalize w.heap.size = g2 at J hlt ⊢
  generalize w.alloc (.cells #[.int .i64 sp, .int .i64 sf, .int .i64 st] 78) = W1 at hx J ⊢
  have d0 := ext_cell hx d0
  have s0 : W1.cell? ⟨g2, 0, none⟩ = some (.int .i64 sp) := J.cell 0
  have HK := Lib.hid (HC.out W1 hx)
  clear HC J
  go_wp2_with fail
  refine HK.out.mono ?_
  rintro e W2 ⟨rfl, rfl⟩
  go_wp2
  go_ret
  exact ⟨rfl, hx⟩
theorem indexS_any (l : List Slt) (lost : List Int) (A LA : Option Addr) (n c ln lc g : Nat) (w : World) (ho : RA sltCells 3 w w.heap.size A n c l) (hl : RA intCells 1 w w.heap.size LA ln lc lost) (hg : Blk w g 25 #[.slice LA ln lc]) :
    Calls Try.prog 65 #[.slice A n c, .func (.func 66) #[] #[.pointer (some ⟨g, 0, none⟩)]] w fun e w' => e = .returned (.int .i64 (sentI lost 0 l)) ∧ Ext w w' := by
  have hle := ho.le
  have HS1 := Lib.hid (fun (s : Slt) (W : World) (hW : Ext w W) => sent1_any s lost LA ln lc g W (ra_ext hl hW) (hg.ext hW))
  have HO := Lib.hid ho
  obtain ⟨fin, hfin⟩ : ∃ y, y = sentI lost 0 l := ⟨_, rfl⟩
  rw [← hfin]
  have HF0 : Hid (fin = sentI lost 0 (l.drop 0)) := Lib.hid hfin
  clear hfin ho hl hg
  go_enter Try.func65, Try.ntmps65
  go_wp2
  go_loopw [8] (fun y wr => ∃ k : Nat, k ≤ n ∧ y = .int .i64 k ∧ Hid (fin = sentI lost k (l.drop k)) ∧ Ext w wr) (fun y _ => n - (intOf y).toNat)
  case atStart => exact ⟨0, Nat.zero_le _, rfl, HF0, Ext.refl _⟩
  case round =>
    clear HF0
    obtain ⟨k, hk, rfl, HF, hx⟩ := hrel
    by_cases hkn : k < n
    · obtain ⟨b, ob, hz, hA, _, hc⟩ := (HO.out.below hx).at_ slt_len hkn
      have hst := HF.out
      rw [List.drop_eq_getElem_cons hz, sentI_cons] at hst
      have hcall := HS1.out l[k] wr hx
      generalize l[k] = s at hst hcall hc
      generalize hasI lost s.p = q at hst hcall
      obtain ⟨sp, sf, st⟩ := s
      have c0 : wr.cell? ⟨b, ob + k * 3, none⟩ = some (.int .i64 sp) := hc 0 (by omega)
      have c1 : wr.cell? ⟨b, ob + k * 3 + 1, none⟩ = some (.int .i64 sf) := hc 1 (by omega)
      have c2 : wr.cell? ⟨b, ob + k * 3 + 2, none⟩ = some (.int .i64 st) := hc 2 (by omega)
      have HST := Lib.hid hst
      have HC := Lib.hid hcall
      subst hA
      clear hc hz hst HF hcall
      go_wp2_with fail
      refine HC.out.mono ?_
      rintro e W2 ⟨rfl, hy⟩
      have hx2 := Ext.trans hx hy
      clear HC c0 c1 c2 hy hx
      cases q
      · have hfe : fin = (k : Int) := by rw [HST.out, if_neg (by simp)]
        have HFE := Lib.hid hfe
        clear hfe HST
        go_wp2
        go_ret
        exact ⟨by rw [HFE.out]; rfl, hx2⟩
      · have HN2 : Hid (fin = sentI lost (k + 1) (l.drop (k + 1))) := Lib.hid (by rw [HST.out, if_pos rfl])
        clear HST
        go_wp2
        go_roundw
        case rel => exact ⟨k + 1, by omega, by go_num, HN2, hx2⟩
        case measure => simp [intOf]; omega
    · have hff : fin = -1 := by rw [HF.out, List.drop_of_length_le (by rw [HO.out.len]; omega)]; rfl
      have HFF := Lib.hid hff
      clear hff HF
      go_wp2
      go_ret
      exact ⟨by rw [HFF.out]; rfl, hx⟩

set_option maxRecDepth 100000 in
set_option maxHeartbeats 4000000 in
theorem sent_any (o : Opt) (ps : List Pas) (lost : List Int) (PA LA : Option Addr) (pn pc ln lc : Nat) (w : World) (ho : RA sltCells 3 w w.heap.size o.a o.n o.c o.l) (hp : RA pasCells 6 w w.heap.size PA pn pc ps) (hl : RA intCells 1 w w.heap.size LA ln lc lost) :
    Calls Try.prog 32 #[.agg (optCells o).toArray, .slice PA pn pc, .slice LA ln lc] w fun e w' => e = .returned (.tuple #[.int .i64 (sentV o ps lost).1, .int .i64 (sentV o ps lost).2]) ∧ Ext w w' := by
  have HV := Lib.hid (fun (W : World) (hW : Ext w W) => loss_valid o ps PA pn pc W (ra_ext ho hW) (ra_ext hp hW))
  have HIS := Lib.hid (fun (W : World) (hW : Ext w W) => isSet_any ps lost PA LA pn pc ln lc W (ra_ext hp hW) (ra_ext hl hW))
  have HIX := Lib.hid (fun (g : Nat) (W : World) (hW : Ext w W) (hg : Blk W g 25 #[.slice LA ln lc]) => indexS_any o.l lost o.a LA o.n o.c ln lc g W (ra_ext ho hW) (ra_ext hl hW) hg)
  unfold sentV sentOK
  generalize sentI lost 0 o.l = z at HIX ⊢
  generalize (properP ps && lossOK ps o.l) = q1 at HV ⊢
  generalize (setR ps.length (-1) lost && properP ps) = q2 at HIS ⊢
  obtain ⟨id, i1, i2, i3, i4, i5, i6, i7, a, n, c, l⟩ := o
  dsimp only at HIX ho
  clear ho hp hl
  show Calls Try.prog 32 #[.agg #[.int .i64 id, .int .i64 i1, .int .i64 i2, .int .i64 i3, .int .i64 i4, .int .i64 i5, .int .i64 i6, .int .i64 i7, .slice a n c], .slice PA pn pc, .slice LA ln lc] w _
  go_enter Try.func32, Try.ntmps32
  go_upto_region 1 with (fail)
  obtain ⟨W1, hW1⟩ : ∃ W, W = (w.alloc (.cells #[.int .i64 id, .int .i64 i1, .int .i64 i2, .int .i64 i3, .int .i64 i4, .int .i64 i5, .int .i64 i6, .int .i64 i7, .slice a n c] 32)).alloc (.cells #[.slice LA ln lc] 25) := ⟨_, rfl⟩
  rw [← hW1]
  obtain ⟨J0, J1, hx1⟩ := al2 w W1 _ _ _ _ hW1
  clear hW1
  generalize w.heap.size + 1 = g5 at J1 ⊢
  generalize w.heap.size = g3 at J0 ⊢
  have d0 : W1.cell? ⟨g3, 0, none⟩ = some (.int .i64 id) := J0.cell 0
  have d1 : W1.cell? ⟨g3, 1, none⟩ = some (.int .i64 i1) := J0.cell 1
  have d2 : W1.cell? ⟨g3, 2, none⟩ = some (.int .i64 i2) := J0.cell 2
  have d3 : W1.cell? ⟨g3, 3, none⟩ = some (.int .i64 i3) := J0.cell 3
  have d4 : W1.cell? ⟨g3, 4, none⟩ = some (.int .i64 i4) := J0.cell 4
  have d5 : W1.cell? ⟨g3, 5, none⟩ = some (.int .i64 i5) := J0.cell 5
  have d6 : W1.cell? ⟨g3, 6, none⟩ = some (.int .i64 i6) := J0.cell 6
  have d7 : W1.cell? ⟨g3, 7, none⟩ = some (.int .i64 i7) := J0.cell 7
  have d8 : W1.cell? ⟨g3, 8, none⟩ = some (.slice a n c) := J0.cell 8
  have HJ0 := Lib.hid J0
  have HJ1 := Lib.hid J1
  have HK := Lib.hid (HV.out W1 hx1)
  clear J0 J1 HV
  go_wp2_with fail
  refine HK.out.mono ?_
  rintro e W2 ⟨rfl, hy⟩
  have hx2 := Ext.trans hx1 hy
  have HJ0 := Lib.hid (HJ0.out.ext hy)
  have HJ1 := Lib.hid (HJ1.out.ext hy)
  clear d0 d1 d2 d3 d4 d5 d6 d7 d8 HK hx1 hy
  cases q1
  · go_wp2
    exact bodyPost_ret (v := .tuple #[.int .i64 0, .int .i64 180]) (by simp [results, Try.results32, go_sem]) rfl ⟨rfl, hx2⟩
  · have l0 : W2.cell? ⟨g5, 0, none⟩ = some (.slice LA ln lc) := HJ1.out.cell 0
    have HK := Lib.hid (HIS.out W2 hx2)
    clear HIS
    go_wp2_with fail
    refine HK.out.mono ?_
    rintro e W3 ⟨rfl, hy⟩
    have hx3 := Ext.trans hx2 hy
    have HJ0 := Lib.hid (HJ0.out.ext hy)
    have HJ1 := Lib.hid (HJ1.out.ext hy)
    clear l0 HK hx2 hy
    cases q2
    · go_wp2
      exact bodyPost_ret (v := .tuple #[.int .i64 0, .int .i64 180]) (by simp [results, Try.results32, go_sem]) rfl ⟨rfl, hx3⟩
    · have d8 : W3.cell? ⟨g3, 8, none⟩ = some (.slice a n c) := HJ0.out.cell 8
      have HK := Lib.hid (HIX.out g5 W3 hx3 HJ1.out)
      clear HIX
      go_wp2_with fail
      refine HK.out.mono ?_
      rintro e W4 ⟨rfl, hy⟩
      have hx4 := Ext.trans hx3 hy
      clear d8 HK hx3 hy
      go_wp2
      exact bodyPost_ret (v := .tuple #[.int .i64 z, .int .i64 0]) (by simp [results, Try.results32, go_sem]) rfl ⟨rfl, hx4⟩
end Go.Proofs.Ytmlabgmigakcbaa
