/- The reference: options that are carried together. -/
import Derived.Test.YtikphbgfcpamgaaP28
import Derived.Test.YtikphbgfcpamgaaP15
import Derived.Test.YtikphbgfcpamgaaP01
namespace Go.Proofs.Ytikphbgfcpamgaa
open Go.RowKit

theorem opsP_at {os : List Opt} {k : Nat} (h : k < os.length) : (opsP os).drop k = os[k].op :: (opsP os).drop (k + 1) := by
  unfold opsP
  rw [← List.map_drop, List.drop_eq_getElem_cons h, List.map_cons, List.map_drop]
theorem opsP_take {os : List Opt} {k : Nat} (h : k < os.length) : (opsP os).take (k + 1) = (opsP os).take k ++ [os[k].op] := by
  unfold opsP
  rw [← List.map_take, ← List.map_take, List.take_succ_eq_append_getElem h, List.map_append]
  rfl
theorem take_drop_at {os : List Opt} {i k : Nat} (hk : k < i) (h : i ≤ os.length) : ((opsP os).take i).drop k = (os[k]'(by omega)).op :: ((opsP os).take i).drop (k + 1) := by
  have hl : k < ((opsP os).take i).length := by simp [opsP]; omega
  rw [List.drop_eq_getElem_cons hl]
  congr 1
  simp [opsP]
theorem refL_ops (os : List Opt) : refL (opsP os) = (decide (os.length ≤ 8) && refR (sat0 os) [] (opsP os)) := by
  unfold refL opsP
  rw [List.length_map]
  cases os <;> rfl
def f3P (s : Slt) (pre : List Op) : Bool := pre.all (fun x => x.l.all (fun t => !meetP s t))
def f2P (pre : List Op) (l : List Slt) : Bool := l.all (fun s => inB s.p 0 63 && f3P s pre)
def f4P (s : Slt) (l : List Slt) : Bool := l.all (fun t => !meetP s t)
def f5P (id : Int) (pre : List Op) : Bool := pre.all (fun x => !decide (x.id = id))
theorem refR_cons (sat : Int) (pre : List Op) (o : Op) (r : List Op) : refR sat pre (o :: r) = (canP o && decide (o.sat = sat) && f2P pre o.l && f5P o.id pre && refR sat (pre ++ [o]) r) := rfl
theorem f2P_cons (pre : List Op) (s : Slt) (r : List Slt) : f2P pre (s :: r) = (inB s.p 0 63 && f3P s pre && f2P pre r) := by simp [f2P]
theorem f3P_cons (s : Slt) (x : Op) (r : List Op) : f3P s (x :: r) = (f4P s x.l && f3P s r) := by simp [f3P, f4P]
theorem f4P_cons (s t : Slt) (r : List Slt) : f4P s (t :: r) = (!meetP s t && f4P s r) := by simp [f4P]
theorem f5P_cons (id : Int) (x : Op) (r : List Op) : f5P id (x :: r) = (!decide (x.id = id) && f5P id r) := by simp [f5P]

set_option maxRecDepth 100000 in
set_option maxHeartbeats 800000 in
theorem carried_any (os : List Opt) (A : Option Addr) (n c : Nat) (w : World) (hO : Ops w w.heap.size A n c os) :
    Calls Try.prog 35 #[.slice A n c] w fun e w' => e = .returned (.bool (refL (opsP os))) ∧ Ext w w' := by
  have hln := hO.out.len
  have hle := hO.out.le
  obtain ⟨V, hV⟩ : ∃ V, V = refL (opsP os) := ⟨_, rfl⟩
  rw [← hV]
  rw [refL_ops, hln] at hV
  have HO := Lib.hid hO
  have HLN := Lib.hid hln
  clear hO hln
  by_cases h8 : n ≤ 8
  · have h8z : ¬ (8 : Int) < (n : Int) := by omega
    have HC0 : Hid (V = refR (sat0 os) ((opsP os).take 0) ((opsP os).drop 0)) := Lib.hid (by rw [hV, decide_eq_true h8]; rfl)
    have HS0 : Hid (∀ W, 0 < n → Ext w W → ∃ b o, A = some ⟨b, o, none⟩ ∧ W.cell? ⟨b, o + 3, none⟩ = some (.int .i64 (sat0 os))) := Lib.hid (fun W h0 hx => by
      obtain ⟨b, o, hz, hA, _, hc⟩ := (HO.out.ext hx).out.at_ opt_len h0
      have h3 : W.cell? ⟨b, o + 0 * 9 + 3, none⟩ = some (.int .i64 os[0].sat) := hc 3 (by omega)
      rw [Nat.zero_mul, Nat.add_zero] at h3
      refine ⟨b, o, hA, ?_⟩
      rw [h3]
      cases os with
      | nil => simp at hz
      | cons x r => rfl)
    generalize sat0 os = s0 at HC0 HS0
    clear hV
    go_enter Try.func35, Try.ntmps35
    go_wp2_with fail
    go_loopw [3] (fun x wr => ∃ i : Nat, i ≤ n ∧ x = .int .i64 i ∧ Hid (V = refR s0 ((opsP os).take i) ((opsP os).drop i)) ∧ Ext w wr) (fun x _ => n - (intOf x).toNat)
    case atStart => exact ⟨0, Nat.zero_le _, rfl, HC0, Ext.refl _⟩
    case round =>
      clear HC0
      obtain ⟨i, hi, rfl, HC, hx⟩ := hrel
      by_cases hin : i < n
      · obtain ⟨b, off, hz, hA, _, hcell⟩ := (HO.out.ext hx).out.at_ opt_len hin
        have hsl := (HO.out.ext hx).each os[i] (List.getElem_mem hz)
        obtain ⟨b0, off0, hA0, hs0⟩ := HS0.out wr (by omega) hx
        rw [hA] at hA0
        injection hA0 with hA0
        injection hA0 with e1 e2
        subst e1 e2
        have hcv := HC.out
        rw [opsP_at hz, refR_cons, ← opsP_take hz] at hcv
        generalize os[i] = o at hcell hsl hcv
        have HW := Lib.hid (fun W hx => rworst_any o W (ra_ext hsl hx))
        generalize canP o.op = cv at hcv HW
        obtain ⟨id, i1, i2, sat, sf, st, i6, size, a, m, d, l⟩ := o
        dsimp only [Opt.op] at hcv hsl
        change Hid (∀ (W : World), Ext wr W → Calls Try.prog 50 #[.agg #[.int .i64 id, .int .i64 i1, .int .i64 i2, .int .i64 sat, .int .i64 sf, .int .i64 st, .int .i64 i6, .int .i64 size, .slice a m d]] W (WorstRet (errW cv) W)) at HW
        generalize hev : errW cv = ev at HW
        have HEV := Lib.hid hev
        clear hev
        have c0 : wr.cell? ⟨b, off + i * 9, none⟩ = some (.int .i64 id) := hcell 0 (by omega)
        have c1 : wr.cell? ⟨b, off + i * 9 + 1, none⟩ = some (.int .i64 i1) := hcell 1 (by omega)
        have c2 : wr.cell? ⟨b, off + i * 9 + 2, none⟩ = some (.int .i64 i2) := hcell 2 (by omega)
        have c3 : wr.cell? ⟨b, off + i * 9 + 3, none⟩ = some (.int .i64 sat) := hcell 3 (by omega)
        have c4_ : wr.cell? ⟨b, off + i * 9 + 4, none⟩ = some (.int .i64 sf) := hcell 4 (by omega)
        have c5 : wr.cell? ⟨b, off + i * 9 + 5, none⟩ = some (.int .i64 st) := hcell 5 (by omega)
        have c6 : wr.cell? ⟨b, off + i * 9 + 6, none⟩ = some (.int .i64 i6) := hcell 6 (by omega)
        have c7 : wr.cell? ⟨b, off + i * 9 + 7, none⟩ = some (.int .i64 size) := hcell 7 (by omega)
        have c8 : wr.cell? ⟨b, off + i * 9 + 8, none⟩ = some (.slice a m d) := hcell 8 (by omega)
        have hiz : (i : Int) < (n : Int) := by omega
        have hml := hsl.len
        have hmle : m ≤ 9223372036854775807 := hsl.le
        replace hcv : V = (cv && decide (sat = s0) && f2P ((opsP os).take i) l && f5P id ((opsP os).take i) && refR s0 ((opsP os).take (i + 1)) ((opsP os).drop (i + 1))) := hcv
        have HCV := Lib.hid hcv
        have HSL := Lib.hid hsl
        have HML : Hid (l.length = m) := Lib.hid hml
        subst hA
        clear hcell hsl hcv hz HC hml
        go_wp2_with fail
        have hc := HW.out _ (Ext.refl wr)
        clear HW
        refine hc.mono ?_
        clear hc
        rintro e W2 ⟨s0_, s1_, s2_, s3_, rfl, hy⟩
        have hyb : Ext wr (W2.alloc (.cells #[.int .i64 s0_, .int .i64 s1_, .int .i64 s2_, .int .i64 s3_] 101)) := bl_alloc hy _
        go_upto_region 7 with (fail)
        generalize W2.heap.size = g4
        generalize W2.alloc (.cells #[.int .i64 s0_, .int .i64 s1_, .int .i64 s2_, .int .i64 s3_] 101) = W3 at hyb ⊢
        have hx3 := Ext.trans hx hyb
        have c0 := ext_cell hyb c0
        have c3 := ext_cell hyb c3
        have c8 := ext_cell hyb c8
        have hs0 := ext_cell hyb hs0
        have HSL := Lib.hid (ra_ext HSL.out hyb)
        clear c1 c2 c4_ c5 c6 c7 hy hyb hx
        cases cv
        · obtain rfl : ev = 110 := HEV.out.symm
          obtain rfl : V = false := by rw [HCV.out]; rfl
          clear HCV HEV
          go_quiet (fail)
          go_wp2
          go_ret
          exact ⟨rfl, below_drewN hx3 _⟩
        obtain rfl : ev = 0 := HEV.out.symm
        clear HEV
        by_cases hsat : sat = s0
        · have hsb : (sat != s0) = false := by simpa using hsat
          have HC2 : Hid (V = (f2P ((opsP os).take i) (l.drop 0) && (f5P id ((opsP os).take i) && refR s0 ((opsP os).take (i + 1)) ((opsP os).drop (i + 1))))) := Lib.hid (by rw [HCV.out, decide_eq_true hsat, List.drop_zero]; simp [Bool.and_assoc])
          obtain ⟨X, hX⟩ : ∃ X, X = (f5P id ((opsP os).take i) && refR s0 ((opsP os).take (i + 1)) ((opsP os).drop (i + 1))) := ⟨_, rfl⟩
          rw [← hX] at HC2
          have HX := Lib.hid hX
          clear hX HCV
          go_quiet (fail)
          have hxd : Ext W3 (W3.drewN nq) := below_drewN (Ext.refl _) nq
          have c0 := ext_cell hxd c0
          have c8 := ext_cell hxd c8
          have HSL := Lib.hid (ra_ext HSL.out hxd)
          have hx4 := Ext.trans hx3 hxd
          generalize W3.drewN nq = W4 at hxd c0 c8 HSL hx4 ⊢
          clear hs0 hx3 hxd
          go_wp2_with fail
          go_loopw [6] (fun x wr => ∃ q : Nat, q ≤ m ∧ x = .int .i64 q ∧ Hid (V = (f2P ((opsP os).take i) (l.drop q) && X)) ∧ Ext W4 wr) (fun x _ => m - (intOf x).toNat)
          case atStart => exact ⟨0, Nat.zero_le _, rfl, HC2, Ext.refl _⟩
          case round =>
            clear HC2
            obtain ⟨q, hq, rfl, HC, hxq⟩ := hrel
            have e8 := ext_cell hxq c8
            by_cases hqm : q < m
            · obtain ⟨b2, o2, hz2, hA2, _, hcell2⟩ := (ra_ext HSL.out hxq).at_ slt_len hqm
              have hcv := HC.out
              rw [List.drop_eq_getElem_cons hz2, f2P_cons] at hcv
              generalize l[q] = s at hcell2 hcv
              obtain ⟨sp, sfr, stt⟩ := s
              have s0_ : wr.cell? ⟨b2, o2 + q * 3, none⟩ = some (.int .i64 sp) := hcell2 0 (by omega)
              have s1_ : wr.cell? ⟨b2, o2 + q * 3 + 1, none⟩ = some (.int .i64 sfr) := hcell2 1 (by omega)
              have s2_ : wr.cell? ⟨b2, o2 + q * 3 + 2, none⟩ = some (.int .i64 stt) := hcell2 2 (by omega)
              replace hcv : V = (inB sp 0 63 && f3P ⟨sp, sfr, stt⟩ ((opsP os).take i) && f2P ((opsP os).take i) (l.drop (q + 1)) && X) := hcv
              have HCV := Lib.hid hcv
              have hqz : (q : Int) < (m : Int) := by omega
              have hxs : Ext W4 (wr.alloc (.cells #[.int .i64 sp, .int .i64 sfr, .int .i64 stt] 62)) := bl_alloc hxq _
              have J7 := Blk.new wr 62 #[.int .i64 sp, .int .i64 sfr, .int .i64 stt]
              subst hA2
              clear hcell2 hz2 hcv HC
              go_upto_region 13 with (fail)
              generalize wr.heap.size = g7 at J7 ⊢
              generalize wr.alloc (.cells #[.int .i64 sp, .int .i64 sfr, .int .i64 stt] 62) = W5 at hxs J7 ⊢
              have d0 : W5.cell? ⟨g7, 0, none⟩ = some (.int .i64 sp) := J7.cell 0
              have HJ7 := Lib.hid J7
              clear s0_ s1_ s2_ e8 hxq J7
              by_cases p1 : sp < 0
              · obtain rfl : V = false := by rw [HCV.out, show inB sp 0 63 = false from by simp [inB]; omega]; rfl
                clear HCV
                go_wp2
                go_ret
                exact ⟨rfl, Ext.trans hx4 hxs⟩
              by_cases p2 : 63 < sp
              · obtain rfl : V = false := by rw [HCV.out, show inB sp 0 63 = false from by simp [inB]; omega]; rfl
                clear HCV
                go_wp2
                go_ret
                exact ⟨rfl, Ext.trans hx4 hxs⟩
              obtain ⟨X2, hX2⟩ : ∃ X2, X2 = (f2P ((opsP os).take i) (l.drop (q + 1)) && X) := ⟨_, rfl⟩
              have HX2 := Lib.hid hX2
              have HC3 : Hid (V = (f3P ⟨sp, sfr, stt⟩ (((opsP os).take i).drop 0) && X2)) := Lib.hid (by rw [HCV.out, inB_iff.2 (show 0 ≤ sp ∧ sp ≤ 63 by omega), hX2, List.drop_zero]; simp [Bool.and_assoc])
              clear hX2 HCV
              go_wp2_with fail
              clear d0
              go_loopw [8] (fun x wr => ∃ k : Nat, k ≤ i ∧ x = .int .i64 k ∧ Hid (V = (f3P ⟨sp, sfr, stt⟩ (((opsP os).take i).drop k) && X2)) ∧ Hid (Blk wr g7 62 #[.int .i64 sp, .int .i64 sfr, .int .i64 stt]) ∧ Ext W4 wr) (fun x _ => i - (intOf x).toNat)
              case atStart => exact ⟨0, Nat.zero_le _, rfl, HC3, HJ7, hxs⟩
              case round =>
                clear HC3 HJ7 hxs
                obtain ⟨k, hk, rfl, HC, HJ7, hxq⟩ := hrel
                by_cases hki : k < i
                · have hkn : k < n := by omega
                  obtain ⟨b3, o3, hz3, hA3, _, hcell3⟩ := (HO.out.ext (Ext.trans hx4 hxq)).out.at_ opt_len hkn
                  have hsl3 := (HO.out.ext (Ext.trans hx4 hxq)).each os[k] (List.getElem_mem hz3)
                  injection hA3 with hA3
                  injection hA3 with q1 q2
                  subst q1 q2
                  have hcv := HC.out
                  rw [take_drop_at hki (by have := HLN.out; omega), f3P_cons] at hcv
                  generalize os[k] = ok at hcell3 hsl3 hcv
                  obtain ⟨kid, ki1, ki2, ksat, ksf, kst, ki6, ksize, ka, km, kd, kl⟩ := ok
                  dsimp only [Opt.op] at hcv hsl3
                  have k8 : wr.cell? ⟨b, off + k * 9 + 8, none⟩ = some (.slice ka km kd) := hcell3 8 (by omega)
                  obtain ⟨X3, hX3⟩ : ∃ X3, X3 = (f3P ⟨sp, sfr, stt⟩ (((opsP os).take i).drop (k + 1)) && X2) := ⟨_, rfl⟩
                  have HX3 := Lib.hid hX3
                  have HC4 : Hid (V = (f4P ⟨sp, sfr, stt⟩ (kl.drop 0) && X3)) := Lib.hid (by rw [hcv, hX3, List.drop_zero]; simp [Bool.and_assoc])
                  have hkml := hsl3.len
                  have hkmle : km ≤ 9223372036854775807 := hsl3.le
                  have HKL := Lib.hid hsl3
                  have HKML : Hid (kl.length = km) := Lib.hid hkml
                  have hkiz : (k : Int) < (i : Int) := by omega
                  have hknz : (k : Int) < (n : Int) := by omega
                  generalize wr = W6 at hxq k8 HKL HJ7 ⊢
                  clear hX3 hcv hcell3 hsl3 hkml hz3 HC
                  go_wp2_with fail
                  go_loopw [9] (fun x wr => ∃ r : Nat, r ≤ km ∧ x = .int .i64 r ∧ Hid (V = (f4P ⟨sp, sfr, stt⟩ (kl.drop r) && X3)) ∧ Hid (Blk wr g7 62 #[.int .i64 sp, .int .i64 sfr, .int .i64 stt]) ∧ Ext W6 wr) (fun x _ => km - (intOf x).toNat)
                  case atStart => exact ⟨0, Nat.zero_le _, rfl, HC4, HJ7, Ext.refl _⟩
                  case round =>
                    clear HC4 HJ7
                    obtain ⟨r, hr, rfl, HC, HJ7, hxr⟩ := hrel
                    have k8 := ext_cell hxr k8
                    by_cases hrm : r < km
                    · obtain ⟨b4, o4, hz4, hA4, _, hcell4⟩ := (ra_ext HKL.out hxr).at_ slt_len hrm
                      have hcv := HC.out
                      rw [List.drop_eq_getElem_cons hz4, f4P_cons] at hcv
                      generalize kl[r] = tt at hcell4 hcv
                      obtain ⟨tp, tfr, ttt⟩ := tt
                      have t1_ : wr.cell? ⟨b4, o4 + r * 3 + 1, none⟩ = some (.int .i64 tfr) := hcell4 1 (by omega)
                      have t2_ : wr.cell? ⟨b4, o4 + r * 3 + 2, none⟩ = some (.int .i64 ttt) := hcell4 2 (by omega)
                      replace hcv : V = (!(decide (sfr < ttt) && decide (tfr < stt)) && f4P ⟨sp, sfr, stt⟩ (kl.drop (r + 1)) && X3) := hcv
                      have HCV := Lib.hid hcv
                      have hrz : (r : Int) < (km : Int) := by omega
                      have hxa : Ext wr (wr.alloc (.cells #[.int .i64 tfr, .int .i64 ttt] 24)) := bl_alloc (Below.refl _ _) _
                      have J10 := Blk.new wr 24 #[.int .i64 tfr, .int .i64 ttt]
                      subst hA4
                      clear hcell4 hz4 hcv HC
                      go_upto_region 22 with (fail)
                      generalize wr.heap.size = g10 at J10 ⊢
                      have HJ7 := Lib.hid (HJ7.out.ext hxa)
                      have hxr := Ext.trans hxr hxa
                      generalize wr.alloc (.cells #[.int .i64 tfr, .int .i64 ttt] 24) = W7 at J10 HJ7 hxr ⊢
                      have d1 : W7.cell? ⟨g7, 1, none⟩ = some (.int .i64 sfr) := HJ7.out.cell 1
                      have d2 : W7.cell? ⟨g7, 2, none⟩ = some (.int .i64 stt) := HJ7.out.cell 2
                      have f0 : W7.cell? ⟨g10, 0, none⟩ = some (.int .i64 tfr) := J10.cell 0
                      have f1 : W7.cell? ⟨g10, 1, none⟩ = some (.int .i64 ttt) := J10.cell 1
                      clear t1_ t2_ J10 hxa k8
                      by_cases m1 : sfr < ttt
                      · by_cases m2 : tfr < stt
                        · obtain rfl : V = false := by rw [HCV.out, decide_eq_true m1, decide_eq_true m2]; rfl
                          clear HCV
                          go_wp2
                          go_ret
                          exact ⟨rfl, Ext.trans hx4 (Ext.trans hxq hxr)⟩
                        · have HC5 : Hid (V = (f4P ⟨sp, sfr, stt⟩ (kl.drop (r + 1)) && X3)) := Lib.hid (by rw [HCV.out, decide_eq_false m2]; simp)
                          clear HCV
                          go_wp2
                          go_roundw
                          case rel => exact ⟨r + 1, by omega, by go_num, HC5, HJ7, hxr⟩
                          case measure => simp [intOf]; omega
                      · have HC5 : Hid (V = (f4P ⟨sp, sfr, stt⟩ (kl.drop (r + 1)) && X3)) := Lib.hid (by rw [HCV.out, decide_eq_false m1]; simp)
                        clear HCV
                        go_wp2
                        go_roundw
                        case rel => exact ⟨r + 1, by omega, by go_num, HC5, HJ7, hxr⟩
                        case measure => simp [intOf]; omega
                    · have HC6 : Hid (V = (f3P ⟨sp, sfr, stt⟩ (((opsP os).take i).drop (k + 1)) && X2)) := Lib.hid (by rw [HC.out, List.drop_of_length_le (by have := HKML.out; omega), HX3.out]; rfl)
                      have hrz : ¬ (r : Int) < (km : Int) := by omega
                      have hxk := Ext.trans hxq hxr
                      clear HC
                      go_wp2
                      go_roundw
                      case rel => exact ⟨k + 1, by omega, by go_num, HC6, HJ7, hxk⟩
                      case measure => simp [intOf]; omega
                · have HC6 : Hid (V = (f2P ((opsP os).take i) (l.drop (q + 1)) && X)) := Lib.hid (by rw [HC.out, List.drop_of_length_le (by simp [opsP]; omega), HX2.out]; rfl)
                  have hkiz : ¬ (k : Int) < (i : Int) := by omega
                  clear HC
                  go_wp2
                  go_roundw
                  case rel => exact ⟨q + 1, by omega, by go_num, HC6⟩
                  case measure => simp [intOf]; omega
            · have HC7 : Hid (V = (f5P id (((opsP os).take i).drop 0) && refR s0 ((opsP os).take (i + 1)) ((opsP os).drop (i + 1)))) := Lib.hid (by rw [HC.out, List.drop_of_length_le (by have := HML.out; omega), HX.out, List.drop_zero]; rfl)
              have hqz : ¬ (q : Int) < (m : Int) := by omega
              obtain ⟨X5, hX5⟩ : ∃ X5, X5 = refR s0 ((opsP os).take (i + 1)) ((opsP os).drop (i + 1)) := ⟨_, rfl⟩
              rw [← hX5] at HC7
              have HX5 := Lib.hid hX5
              clear HC hX5
              go_wp2_with fail
              clear e8
              generalize hWW : wr = W8 at hxq ⊢
              clear hWW
              go_loopw [11] (fun x wr => ∃ k : Nat, k ≤ i ∧ x = .int .i64 k ∧ Hid (V = (f5P id (((opsP os).take i).drop k) && X5)) ∧ Ext W4 wr) (fun x _ => i - (intOf x).toNat)
              case atStart => exact ⟨0, Nat.zero_le _, rfl, HC7, hxq⟩
              case round =>
                clear HC7 hxq
                obtain ⟨k, hk, rfl, HC, hxq⟩ := hrel
                have e0 := ext_cell hxq c0
                by_cases hki : k < i
                · have hkn : k < n := by omega
                  obtain ⟨b3, o3, hz3, hA3, _, hcell3⟩ := (HO.out.ext (Ext.trans hx4 hxq)).out.at_ opt_len hkn
                  injection hA3 with hA3
                  injection hA3 with q1 q2
                  subst q1 q2
                  have hcv := HC.out
                  rw [take_drop_at hki (by have := HLN.out; omega), f5P_cons] at hcv
                  generalize os[k] = ok at hcell3 hcv
                  obtain ⟨kid, ki1, ki2, ksat, ksf, kst, ki6, ksize, ka, km, kd, kl⟩ := ok
                  replace hcv : V = (!decide (kid = id) && f5P id (((opsP os).take i).drop (k + 1)) && X5) := hcv
                  have k0 : wr.cell? ⟨b, off + k * 9, none⟩ = some (.int .i64 kid) := hcell3 0 (by omega)
                  have hkiz : (k : Int) < (i : Int) := by omega
                  have hknz : (k : Int) < (n : Int) := by omega
                  have HCV := Lib.hid hcv
                  clear hcv hcell3 hz3 HC
                  go_upto_region 27 with (fail)
                  by_cases hid : kid = id
                  · have hib : (kid == id) = true := by simpa using hid
                    obtain rfl : V = false := by rw [HCV.out, decide_eq_true hid]; rfl
                    clear HCV
                    go_quiet (fail)
                    go_wp2
                    go_ret
                    exact ⟨rfl, below_drewN (Ext.trans hx4 hxq) _⟩
                  · have hib : (kid == id) = false := by simpa using hid
                    have HC8 : Hid (V = (f5P id (((opsP os).take i).drop (k + 1)) && X5)) := Lib.hid (by rw [HCV.out, decide_eq_false hid]; rfl)
                    clear HCV
                    go_quiet (fail)
                    have hxn : Ext W4 (wr.drewN nq) := below_drewN hxq nq
                    go_wp2
                    go_roundw
                    case rel => exact ⟨k + 1, by omega, by go_num, HC8, hxn⟩
                    case measure => simp [intOf]; omega
                · have HC9 : Hid (V = refR s0 ((opsP os).take (i + 1)) ((opsP os).drop (i + 1))) := Lib.hid (by rw [HC.out, List.drop_of_length_le (by simp [opsP]; omega), HX5.out]; rfl)
                  have hkiz : ¬ (k : Int) < (i : Int) := by omega
                  have hxe := Ext.trans hx4 hxq
                  clear HC
                  go_wp2
                  go_roundw
                  case rel => exact ⟨i + 1, by omega, by go_num, HC9, hxe⟩
                  case measure => simp [intOf]; omega
        · have hsb : (sat != s0) = true := by simpa using hsat
          obtain rfl : V = false := by rw [HCV.out, decide_eq_false hsat]; simp
          clear HCV
          go_quiet (fail)
          go_wp2
          go_ret
          exact ⟨rfl, below_drewN hx3 _⟩
      · obtain rfl : V = true := by rw [HC.out, List.drop_of_length_le (by simp [opsP]; have := HLN.out; omega)]; rfl
        have hiz : ¬ (i : Int) < (n : Int) := by omega
        go_wp2
        go_ret
        exact ⟨rfl, hx⟩
  · have h8z : (8 : Int) < (n : Int) := by omega
    obtain rfl : V = false := by rw [hV, decide_eq_false h8]; rfl
    go_enter Try.func35, Try.ntmps35
    go_wp2
    go_ret
    exact ⟨rfl, Ext.refl _⟩
end Go.Proofs.Ytikphbgfcpamgaa
