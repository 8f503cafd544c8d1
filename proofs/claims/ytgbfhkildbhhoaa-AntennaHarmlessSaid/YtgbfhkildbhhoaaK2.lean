/- Kuhn's search: give, by induction on the passes that are not tried. -/
import Derived.Test.YtgbfhkildbhhoaaK1
namespace Go.Proofs.Ytgbfhkildbhhoaa
open Go.RowKit

theorem zero_bool (w : World) : (zeroValue 4).run Try.prog w = .ok (.bool false) w := by kernel_rfl
theorem zero_int (w : World) : (zeroValue 3).run Try.prog w = .ok (.int .i64 0) w := by kernel_rfl
theorem tM_get (t : Int → Bool) (p : Int) : (tM t p).getD (.bool false) = .bool (t p) := by unfold tM; cases t p <;> rfl
theorem tM_upd (t : Int → Bool) (p : Int) : ∀ k, (if k = p then some (Value.bool true) else tM t k) = tM (updT t p) k := fun k => by
  unfold tM updT
  by_cases h : k = p
  · rw [if_pos h, if_pos h]; rfl
  · rw [if_neg h, if_neg h]
theorem oM_upd (o : Int → Option Nat) (p : Int) (i : Nat) : ∀ k, (if k = p then some (Value.int .i64 (i : Int)) else oM o k) = oM (updO o p i) k := fun k => by
  unfold oM updO
  by_cases h : k = p
  · rw [if_pos h, if_pos h]; rfl
  · rw [if_neg h, if_neg h]
/-- What give hands back. -/
def GiveRet (go gt : Nat) (x : KR) (w : World) (e : Ending) (w' : World) : Prop := e = .returned (.bool x.ok) ∧ Two go gt w w' ∧ MapI w' go (oM x.o) ∧ MapI w' gt (tM x.t)

set_option maxRecDepth 100000 in
set_option maxHeartbeats 4000000 in
theorem give_any {B gp gw gg gl gn go gt : Nat} {LA : Option Addr} {ln lc : Nat} {NA : Option Addr} {nn nc : Nat} {rs : List Req} {os : List Int} (hgo : B ≤ go) (hgt : B ≤ gt) (hne : go ≠ gt) (hl : ln ≤ 1000) (hps : ∀ j, j < ln → ∀ p ∈ psP rs os j, 0 ≤ p ∧ p ≤ 63) (f : Nat) :
    ∀ (i : Nat) (o : Int → Option Nat) (t : Int → Bool) (w : World), GEnv B gp gw gg gl gn go LA ln lc NA nn nc rs os w → MapI w go (oM o) → MapI w gt (tM t) → i < ln → (∀ p j, o p = some j → j < ln) → unt t < f →
    Calls Try.prog 71 #[.int .i64 i, .map (some gt), .pointer (some ⟨gp, 0, none⟩), .pointer (some ⟨gw, 0, none⟩), .pointer (some ⟨gg, 0, none⟩)] w (GiveRet go gt (giveF (psP rs os) f i o t) w) := by
  induction f with
  | zero => intro i o t w _ _ _ _ _ h; omega
  | succ f ih =>
    intro i o t w E mo mt hi hob hun
    have hP := passes_any E i hi hl
    have hpi := hps i hi
    rw [giveF]
    obtain ⟨l, hl2⟩ : ∃ l, l = psP rs os i := ⟨_, rfl⟩
    rw [← hl2] at hP hpi ⊢
    obtain ⟨rec, hrec⟩ : ∃ r, r = giveF (psP rs os) f := ⟨_, rfl⟩
    rw [← hrec]
    obtain ⟨x, hx⟩ : ∃ x, x = giveL rec i l o t := ⟨_, rfl⟩
    rw [← hx]
    have HX := Lib.hid hx
    have HREC := Lib.hid hrec
    have HE := Lib.hid E
    have HMO := Lib.hid mo
    have HMT := Lib.hid mt
    have HP := Lib.hid hP
    have IH := Lib.hid ih
    have HPS := Lib.hid hpi
    have HOB := Lib.hid hob
    have d0 : w.cell? ⟨gp, 0, none⟩ = some (.func (.func 70) #[] #[.pointer (some ⟨gn, 0, none⟩), .pointer (some ⟨gl, 0, none⟩)]) := E.jp.cell 0
    clear hP ih hpi hx hrec mo mt E hl2 hps hob
    go_enter Try.func71, Try.ntmps71
    go_wp2_with fail
    refine HP.out.mono ?_
    rintro e w1 ⟨rfl, LA1, m, mc, rfl, hra, hm⟩
    clear d0 HP
    have HRA := Lib.hid hra
    have HLN := Lib.hid hra.len
    clear hra
    go_wp2
    go_loopw [16] (fun y wr => ∃ (k : Nat) (o' : Int → Option Nat) (t' : Int → Bool), k ≤ m ∧ y = .int .i64 k ∧ Hid (x = giveL rec i (l.drop k) o' t') ∧ Hid (MapI wr go (oM o')) ∧ Hid (MapI wr gt (tM t')) ∧ unt t' < f + 1 ∧ Hid (∀ p j, o' p = some j → j < ln) ∧ Two go gt w1 wr) (fun y _ => m - (intOf y).toNat)
    case atStart => exact ⟨0, o, t, Nat.zero_le _, rfl, Lib.hid (by rw [HX.out]; rfl), HMO, HMT, hun, HOB, Two.refl _ _ _⟩
    case round =>
      have HE1 := HE
      clear HX HOB hun
      obtain ⟨k, o', t', hk, rfl, HX, HO, HT, hun, HOB, hx⟩ := hrel
      have hE2 := HE1.out.two HMO.out HMT.out hgo hgt hx
      by_cases hkm : k < m
      · obtain ⟨b, off, hz, hA, _, hc⟩ := (HRA.out.keep (w' := wr) (fun p hp => hx.cell p (by have := HE1.out.hB; omega) (by omega) (by omega))).at_ int_len hkm
        have hxx := HX.out
        rw [List.drop_eq_getElem_cons hz, giveL_cons] at hxx
        have hpb := HPS.out l[k] (List.getElem_mem hz)
        have c0 : wr.cell? ⟨b, off + k, none⟩ = some (.int .i64 l[k]) := by have h := hc 0 (by omega); rw [Nat.mul_one, Nat.add_zero] at h; exact h
        generalize l[k] = p at hxx hpb c0
        subst hA
        clear hc hz HX
        have hlk := HT.out.look Try.underlying110 Try.underlying3 (zero_bool wr) p
        rw [tM_get] at hlk
        generalize hq : t' p = q at hxx hlk
        have HXX := Lib.hid hxx
        have HQ := Lib.hid hq
        have HE2 := Lib.hid hE2
        clear hxx hq hE2
        cases q
        · obtain ⟨W2, hu2, hm2, hg2⟩ := HT.out.update Try.underlying110 Try.underlying3 p (.bool true)
          have hmt2 := hm2.congr (tM_upd t' p)
          have hmo2 := HO.out.grown hg2 (by intro e; injection e with e; exact hne e)
          have hx2 := hx.right hg2
          have hE3 := HE2.out.two HO.out HT.out hgo hgt ((Two.refl _ _ _).right hg2)
          have hun2 : unt (updT t' p) < f := by have := unt_upd HQ.out hpb.1 hpb.2; omega
          have HU2 := Lib.hid hu2
          have HMT2 := Lib.hid hmt2
          have HMO2 := Lib.hid hmo2
          have HE3 := Lib.hid hE3
          have e1 : W2.cell? ⟨gw, 0, none⟩ = some (.map (some go)) := hE3.jw.cell 0
          have e2 : W2.cell? ⟨gg, 0, none⟩ = some (.func (.func 71) #[] #[.pointer (some ⟨gp, 0, none⟩), .pointer (some ⟨gw, 0, none⟩), .pointer (some ⟨gg, 0, none⟩)]) := hE3.jg.cell 0
          have hlo := hmo2.look_ok Try.underlying107 Try.underlying3 (zero_int W2) p
          clear hu2 hm2 hg2 hmt2 hmo2 hE3 HQ hpb
          generalize hop : o' p = q2 at hlo
          cases q2 with
          | none =>
            have hlo2 : (Instr.lookup 107 (.map (some go)) (.int .i64 p) true).run Try.prog W2 = .ok (.tuple #[.int .i64 0, .bool false]) W2 := by
              have : oM o' p = none := by unfold oM; rw [hop]; rfl
              rw [this] at hlo
              exact hlo
            clear hlo
            obtain ⟨W3, hu3, hm3, hg3⟩ := HMO2.out.update Try.underlying107 Try.underlying3 p (.int .i64 (i : Int))
            have hx3 := hx2.left hg3
            have hmo3 := Lib.hid (hm3.congr (oM_upd o' p i))
            have hmt3 := Lib.hid (HMT2.out.grown hg3 (by intro e; injection e with e; exact hne e.symm))
            have HU3 := Lib.hid hu3
            have HXN : Hid (x = ⟨true, updO o' p i, updT t' p⟩) := Lib.hid (by rw [HXX.out, if_neg (by simp), hop])
            clear hop hu3 hm3 hg3 HXX HMO2 HMT2
            go_wp2_with (first | refine wpList_mapUpdate_run rfl _ _ _ _ rfl rfl rfl rfl HU2.out ?_ | refine wpList_mapUpdate_run rfl _ _ _ _ rfl rfl rfl rfl HU3.out ?_)
            go_ret
            rw [HXN.out]
            exact ⟨rfl, hx3, hmo3.out, hmt3.out⟩
          | some k2 =>
            have hlo2 : (Instr.lookup 107 (.map (some go)) (.int .i64 p) true).run Try.prog W2 = .ok (.tuple #[.int .i64 (k2 : Int), .bool true]) W2 := by
              have : oM o' p = some (.int .i64 (k2 : Int)) := by unfold oM; rw [hop]; rfl
              rw [this] at hlo
              exact hlo
            have hk2 := HOB.out p k2 hop
            have hcall := IH.out k2 o' (updT t' p) W2 HE3.out HMO2.out HMT2.out hk2 HOB.out hun2
            rw [← HREC.out] at hcall
            have hmono : ∀ q, updT t' p q = true → (rec k2 o' (updT t' p)).t q = true := fun q h => by rw [HREC.out]; exact giveF_mono _ _ _ _ _ _ h
            have hrng : ∀ q j, (rec k2 o' (updT t' p)).o q = some j → j < ln := by rw [HREC.out]; exact giveF_rng _ ln _ _ _ _ hk2 HOB.out
            have hxk : x = if (rec k2 o' (updT t' p)).ok then ⟨true, updO (rec k2 o' (updT t' p)).o p i, (rec k2 o' (updT t' p)).t⟩ else giveL rec i (l.drop (k + 1)) (rec k2 o' (updT t' p)).o (rec k2 o' (updT t' p)).t := by rw [HXX.out, if_neg (by simp), hop]
            generalize rec k2 o' (updT t' p) = y at hcall hmono hrng hxk
            obtain ⟨yk, yo, yt⟩ := y
            dsimp only at hmono hrng hxk
            have hun3 : unt yt < f + 1 := by have := unt_le hmono; omega
            have HXK := Lib.hid hxk
            have HCALL := Lib.hid hcall
            have HRNG := Lib.hid hrng
            have HE4 : Hid (∀ {W}, Two go gt W2 W → GEnv B gp gw gg gl gn go LA ln lc NA nn nc rs os W) := Lib.hid (fun hy => HE3.out.two HMO2.out HMT2.out hgo hgt hy)
            clear hlo hop hcall hmono hrng hxk HXX HOB HMO2 HMT2
            go_wp2_with (refine wpList_mapUpdate_run rfl _ _ _ _ rfl rfl rfl rfl HU2.out ?_)
            refine HCALL.out.mono ?_
            rintro e W3 ⟨rfl, hy, hmo, hmt⟩
            have hx3 := hx2.trans hy
            have e1 : W3.cell? ⟨gw, 0, none⟩ = some (.map (some go)) := (HE4.out hy).jw.cell 0
            have HMO4 := Lib.hid hmo
            have HMT4 := Lib.hid hmt
            clear HCALL hy hmo hmt
            cases yk
            · have hr : Hid (x = giveL rec i (l.drop (k + 1)) yo yt) := Lib.hid (by rw [HXK.out]; rfl)
              clear HXK
              go_wp2
              go_roundw
              case rel => exact ⟨k + 1, yo, yt, by omega, by go_num, hr, HMO4, HMT4, hun3, HRNG, hx3⟩
              case measure => simp [intOf]; omega
            · obtain ⟨W4, hu4, hm4, hg4⟩ := HMO4.out.update Try.underlying107 Try.underlying3 p (.int .i64 (i : Int))
              have hx4 := hx3.left hg4
              have hmo4 := Lib.hid (hm4.congr (oM_upd yo p i))
              have hmt4 := Lib.hid (HMT4.out.grown hg4 (by intro e; injection e with e; exact hne e.symm))
              have HU4 := Lib.hid hu4
              have HXN : Hid (x = ⟨true, updO yo p i, yt⟩) := Lib.hid (by rw [HXK.out]; rfl)
              clear hu4 hm4 hg4 HXK HMO4 HMT4
              go_wp2_with (refine wpList_mapUpdate_run rfl _ _ _ _ rfl rfl rfl rfl HU4.out ?_)
              go_ret
              rw [HXN.out]
              exact ⟨rfl, hx4, hmo4.out, hmt4.out⟩
        · have HXN : Hid (x = giveL rec i (l.drop (k + 1)) o' t') := Lib.hid (by rw [HXX.out, if_pos rfl])
          clear HXX HQ
          go_wp2
          go_roundw
          case rel => exact ⟨k + 1, o', t', by omega, by go_num, HXN, HO, HT, hun, HOB, hx⟩
          case measure => simp [intOf]; omega
      · have HXN : Hid (x = ⟨false, o', t'⟩) := Lib.hid (by rw [HX.out, List.drop_of_length_le (by rw [HLN.out]; omega), giveL])
        clear HX
        go_wp2
        go_ret
        rw [HXN.out]
        exact ⟨rfl, hx, HO.out, HT.out⟩
end Go.Proofs.Ytgbfhkildbhhoaa
