/- The contracts of the laws about what is true, for a case; and what each law asks, plainly. -/
import Derived.Test.YtmlabgmigakcbaaY1
import Derived.Deep.CutRange
namespace Go.Proofs.Ytmlabgmigakcbaa
open Go.RowKit

def lostI (c : Cas) : List Int := (lostP (casP c).length c.lost).map (fun k : Nat => (k : Int))
def casW (c : Cas) : (List Rcp × List Nte) × Int := wrtV ((casO c).map toOpt) (casP c) (casS c) (lostI c) c.wr
theorem lostP_len (n : Nat) (x : Int) : (lostP n x).length ≤ 20 := by unfold lostP; exact Nat.le_trans (lostK_len _ _) (Nat.min_le_right _ _)
/-- A lost set of a case, as a slice that can be read. -/
theorem lost_ra (c : Cas) (PA : Option Addr) (pc : Nat) (w : World) (hp : RA pasCells 6 w w.heap.size PA (casP c).length pc (casP c)) (hl : I64ok c.lost) :
    Calls Try.prog 25 #[.slice PA (casP c).length pc, .int .i64 c.lost] w fun e w' => ∃ A n k, e = .returned (.slice A n k) ∧ RA intCells 1 w' w'.heap.size A n k (lostI c) ∧ Ext w w' := by
  refine (lost_any (casP c) PA _ pc c.lost w hp hl).mono fun e w' ⟨v, h1, h2, h3⟩ => ?_
  obtain ⟨A, k, hv, _, _⟩ := own_slice h2
  subst hv
  exact ⟨A, _, k, h1, (RA.of_own h2 rfl (by have := lostP_len (casP c).length c.lost; omega)).nat, h3⟩
theorem wrtL_len (ps : List Pas) (sts : List Stn) (lost wrong : List Int) : ∀ (os : List Opt) (rs : List Rcp) (ns : List Nte) (X : List Rcp × List Nte), (∀ o ∈ os, o.l.length ≤ 6) → wrtL ps sts lost wrong rs ns os = some X → X.1.length ≤ rs.length + os.length ∧ X.2.length ≤ ns.length + 7 * os.length
  | [], rs, ns, X, _, h => by
    rw [wrtL] at h
    injection h with h
    subst h
    simp
  | o :: r, rs, ns, X, h6, h => by
    rw [wrtL_cons] at h
    split at h
    · obtain ⟨h1, h2⟩ := wrtL_len ps sts lost wrong r _ _ X (fun x hx => h6 x (List.mem_cons_of_mem _ hx)) h
      have hnt : (ntsOf o.id (sentV o ps lost).1 o.l.length).length ≤ 7 := by
        have h7 := h6 o List.mem_cons_self
        unfold ntsOf
        rw [ntsTo_len]
        split
        · rename_i hz
          rcases sentV_cases o ps lost with e | ⟨z, e, hb⟩
          · rw [e]; simp
          · rw [e] at hz ⊢; dsimp only at hz ⊢; omega
        · omega
      rw [List.length_append] at h2
      refine ⟨?_, by simp only [List.length_cons]; omega⟩
      simp only [List.length_cons]
      split at h1
      · simp at h1; omega
      · omega
    · cases h
theorem casW_len (c : Cas) : (casW c).1.1.length ≤ 8 ∧ (casW c).1.2.length ≤ 56 := by
  have h8 := casO_len c
  unfold casW wrtV
  rw [if_pos (cas_valid c)]
  cases hw : wrtL (casP c) (casS c) (lostI c) c.wr [] [] ((casO c).map toOpt) with
  | none => simp
  | some X =>
    have := wrtL_len _ _ _ _ _ _ _ X (fun o ho => by
      obtain ⟨p, hp, rfl⟩ := List.mem_map.1 ho
      exact (cas_slots c p hp).2.1) hw
    simp at this
    dsimp only
    omega

set_option maxRecDepth 100000 in
set_option maxHeartbeats 8000000 in
theorem truth_any (c : Cas) (OA PA SA : Option Addr) (oc pc sc : Nat) (os : List Opt) (w : World) (hc : CasR w w.heap.size c) (hm : MadeR w c OA PA SA oc pc sc os) :
    Calls Try.prog 12 #[casV c, .slice PA (casP c).length pc, .slice OA (casO c).length oc, .slice SA 3 sc] w fun e w' =>
      ∃ RA_ rc NA nc, e = .returned (.tuple #[.slice RA_ (casW c).1.1.length rc, .slice NA (casW c).1.2.length nc, .bool (decide ((casW c).2 = 0))]) ∧ RA rcpCells 3 w' w'.heap.size RA_ (casW c).1.1.length rc (casW c).1.1 ∧ RA nteCells 3 w' w'.heap.size NA (casW c).1.2.length nc (casW c).1.2 ∧ Ext w w' := by
  have HLO := Lib.hid (fun (W : World) (hW : Ext w W) => lost_ra c PA pc W (ra_ext hm.ps hW) hc.lost)
  have HWR : Hid (∀ (W : World) (A : Option Addr) (n k : Nat), Ext w W → RA intCells 1 W W.heap.size A n k (lostI c) → Calls Try.prog 26 #[.slice OA (casO c).length oc, .slice PA (casP c).length pc, .slice SA 3 sc, .slice A n k, .slice c.wa c.wn c.wc] W (WrtRet (casW c) W)) := Lib.hid (fun W A n k hW hA => by
    have h := write_any os (casP c) (casS c) (lostI c) c.wr OA PA SA A c.wa _ oc _ pc 3 sc n k c.wn c.wc W (hm.ext hW).ho (ra_ext hm.ps hW) (ra_ext hm.st hW) hA (ra_ext hc.wr hW)
    rw [wrtV_map os, hm.op] at h
    exact h)
  have hlen := casW_len c
  have hcv : casV c = .agg #[.slice c.pa c.pn c.pc, .slice c.oa c.on c.oc, .int .i64 c.sk.a, .int .i64 c.sk.b, .int .i64 c.sk.c, .int .i64 c.lost, .slice c.wa c.wn c.wc] := rfl
  rw [hcv]
  clear hcv hc hm
  generalize lostI c = LI at HLO HWR
  generalize casW c = X at HWR hlen ⊢
  obtain ⟨⟨XR, XN⟩, XE⟩ := X
  dsimp only at hlen ⊢
  obtain ⟨hlen1, hlen2⟩ := hlen
  generalize (casO c).length = on at HWR ⊢
  generalize (casP c).length = pn at HLO HWR ⊢
  generalize c.pa = pa
  generalize c.pn = pcn
  generalize c.pc = pcc
  generalize c.oa = oa
  generalize c.on = ocn
  generalize c.oc = occ
  generalize c.sk.a = sa
  generalize c.sk.b = sb
  generalize c.sk.c = sc2
  generalize c.lost = lo at HLO ⊢
  generalize c.wa = wa at HWR ⊢
  generalize c.wn = wn at HWR ⊢
  generalize c.wc = wc at HWR ⊢
  obtain ⟨fin, hfin⟩ : ∃ y, y = decide (XE = 0) := ⟨_, rfl⟩
  rw [← hfin]
  have HFIN := Lib.hid hfin
  clear hfin
  go_enter Try.func12, Try.ntmps12
  go_upto_region 1 with (fail)
  have hx1 : Ext w (w.alloc (.cells #[.slice pa pcn pcc, .slice oa ocn occ, .int .i64 sa, .int .i64 sb, .int .i64 sc2, .int .i64 lo, .slice wa wn wc] 27)) := bl_alloc (Below.refl _ _) _
  have J := Blk.new w 27 #[.slice pa pcn pcc, .slice oa ocn occ, .int .i64 sa, .int .i64 sb, .int .i64 sc2, .int .i64 lo, .slice wa wn wc]
  obtain ⟨g4, hg4⟩ : ∃ g, g = w.heap.size := ⟨_, rfl⟩
  rw [← hg4] at J ⊢
  clear hg4
  generalize w.alloc (.cells #[.slice pa pcn pcc, .slice oa ocn occ, .int .i64 sa, .int .i64 sb, .int .i64 sc2, .int .i64 lo, .slice wa wn wc] 27) = W1 at hx1 J ⊢
  have d5 : W1.cell? ⟨g4, 5, none⟩ = some (.int .i64 lo) := J.cell 5
  have d6 : W1.cell? ⟨g4, 6, none⟩ = some (.slice wa wn wc) := J.cell 6
  clear J
  refine wp_region_obl 17 (fun ix vals v w1 => match ix with | 0 => v = .slice OA on oc | 1 => v = .slice PA pn pc | 2 => v = .slice SA 3 sc | 3 => v = .slice PA pn pc | 4 => v = .pointer (some ⟨g4, 5, none⟩) | 5 => v = .int .i64 lo | 6 => ∃ A n k, v = .slice A n k ∧ RA intCells 1 w1 w1.heap.size A n k LI | 7 => v = .pointer (some ⟨g4, 6, none⟩) | 8 => v = .slice wa wn wc | 9 => ∃ v1 vn, v = .tuple #[v1, vn, .int .i64 XE] ∧ OwnRc w1 W1.heap.size v1 XR ∧ OwnNt w1 W1.heap.size vn XN | 10 => ∃ v1 vn, v = .tuple #[v1, vn, .int .i64 XE] ∧ OwnRc w1 W1.heap.size v1 XR ∧ OwnNt w1 W1.heap.size vn XN | 11 => OwnRc w1 W1.heap.size v XR | 12 => OwnNt w1 W1.heap.size v XN | 13 => v = .int .i64 XE | 14 => OwnRc w1 W1.heap.size v XR | 15 => OwnNt w1 W1.heap.size v XN | _ => v = .int .i64 XE) (by kernel_rfl) (by kernel_rfl) ?_ ?_ ?_ ?_
  · intro ix vals v w1 w2 hi hr hx
    match ix, hr with
    | 0, hr => exact hr
    | 1, hr => exact hr
    | 2, hr => exact hr
    | 3, hr => exact hr
    | 4, hr => exact hr
    | 5, hr => exact hr
    | 6, hr => obtain ⟨A, n, k, h1, h2⟩ := hr; exact ⟨A, n, k, h1, ra_ext h2 hx⟩
    | 7, hr => exact hr
    | 8, hr => exact hr
    | 9, hr => obtain ⟨v1, vn, h1, h2, h3⟩ := hr; exact ⟨v1, vn, h1, h2.ext hx, h3.ext hx⟩
    | 10, hr => obtain ⟨v1, vn, h1, h2, h3⟩ := hr; exact ⟨v1, vn, h1, h2.ext hx, h3.ext hx⟩
    | 11, hr => exact OwnRc.ext hr hx
    | 12, hr => exact OwnNt.ext hr hx
    | 13, hr => exact hr
    | 14, hr => exact OwnRc.ext hr hx
    | 15, hr => exact OwnNt.ext hr hx
    | (kx + 16), hr => exact hr
  · intro ix vals vals_ v w1 hi hv hr
    exact hr
  · refine ⟨?_, ?_, ?_, ?_, ?_, ?_, ?_, ?_, ?_, ?_, ?_, ?_, ?_, ?_, ?_, ?_, ?_, trivial⟩
    · intro vals w1 hx hd ha
      clear hd ha
      simp only [Lf]
      go_wp2
      exact ⟨rfl, Ext.refl _, rfl⟩
    · intro vals w1 hx hd ha
      clear hd ha
      simp only [Lf, dstAt, Act.put, List.getElem?_toArray, List.getElem?_cons_zero, Option.bind_some, List.setIfInBounds_toArray, List.set_cons_zero, List.set_cons_succ]
      go_wp2
      exact ⟨rfl, Ext.refl _, rfl⟩
    · intro vals w1 hx hd ha
      clear hd ha
      simp only [Lf, dstAt, Act.put, List.getElem?_toArray, List.getElem?_cons_zero, List.getElem?_cons_succ, Option.bind_some, List.setIfInBounds_toArray, List.set_cons_zero, List.set_cons_succ]
      go_wp2
      exact ⟨rfl, Ext.refl _, rfl⟩
    · intro vals w1 hx hd ha
      clear hd ha
      simp only [Lf, dstAt, Act.put, List.getElem?_toArray, List.getElem?_cons_zero, List.getElem?_cons_succ, Option.bind_some, List.setIfInBounds_toArray, List.set_cons_zero, List.set_cons_succ]
      go_wp2
      exact ⟨rfl, Ext.refl _, rfl⟩
    · intro vals w1 hx hd ha
      clear hd ha
      simp only [Lf, dstAt, Act.put, List.getElem?_toArray, List.getElem?_cons_zero, List.getElem?_cons_succ, Option.bind_some, List.setIfInBounds_toArray, List.set_cons_zero, List.set_cons_succ]
      go_wp2
      exact ⟨rfl, Ext.refl _, rfl⟩
    · intro vals w1 hx hd ha
      have e4 : vals 4 = .pointer (some ⟨g4, 5, none⟩) := hd 4 (by decide)
      clear hd ha
      simp only [Lf, dstAt, Act.put, List.getElem?_toArray, List.getElem?_cons_zero, List.getElem?_cons_succ, Option.bind_some, List.setIfInBounds_toArray, List.set_cons_zero, List.set_cons_succ]
      simp only [e4]
      clear e4
      have d5 := ext_cell hx d5
      go_wp2
      exact ⟨rfl, Ext.refl _, rfl⟩
    · intro vals w1 hx hd ha
      have e3 : vals 3 = .slice PA pn pc := hd 3 (by decide)
      have e5 : vals 5 = .int .i64 lo := hd 5 (by decide)
      clear hd ha
      simp only [Lf, dstAt, Act.put, List.getElem?_toArray, List.getElem?_cons_zero, List.getElem?_cons_succ, Option.bind_some, List.setIfInBounds_toArray, List.set_cons_zero, List.set_cons_succ]
      simp only [e3]
      simp only [e5]
      clear e3 e5
      go_wp2_with fail
      refine (HLO.out w1 (Ext.trans hx1 hx.undrew)).mono ?_
      rintro e w2 ⟨A, n, k, rfl, h1, hb2⟩
      have h1 := Lib.hid h1
      go_wp2
      exact ⟨rfl, hb2, A, n, k, rfl, h1.out⟩
    · intro vals w1 hx hd ha
      clear hd ha
      simp only [Lf, dstAt, Act.put, List.getElem?_toArray, List.getElem?_cons_zero, List.getElem?_cons_succ, Option.bind_some, List.setIfInBounds_toArray, List.set_cons_zero, List.set_cons_succ]
      go_wp2
      exact ⟨rfl, Ext.refl _, rfl⟩
    · intro vals w1 hx hd ha
      have e7 : vals 7 = .pointer (some ⟨g4, 6, none⟩) := hd 7 (by decide)
      clear hd ha
      simp only [Lf, dstAt, Act.put, List.getElem?_toArray, List.getElem?_cons_zero, List.getElem?_cons_succ, Option.bind_some, List.setIfInBounds_toArray, List.set_cons_zero, List.set_cons_succ]
      simp only [e7]
      clear e7
      have d6 := ext_cell hx d6
      go_wp2
      exact ⟨rfl, Ext.refl _, rfl⟩
    · intro vals w1 hx hd ha
      have e0 : vals 0 = .slice OA on oc := hd 0 (by decide)
      have e1 : vals 1 = .slice PA pn pc := hd 1 (by decide)
      have e2 : vals 2 = .slice SA 3 sc := hd 2 (by decide)
      have r6 : (fun v w1 => ∃ A n k, v = .slice A n k ∧ RA intCells 1 w1 w1.heap.size A n k LI) (vals 6) w1 := hd 6 (by decide)
      dsimp only at r6
      have e8 : vals 8 = .slice wa wn wc := hd 8 (by decide)
      clear hd ha
      simp only [Lf, dstAt, Act.put, List.getElem?_toArray, List.getElem?_cons_zero, List.getElem?_cons_succ, Option.bind_some, List.setIfInBounds_toArray, List.set_cons_zero, List.set_cons_succ]
      simp only [e0]
      simp only [e1]
      simp only [e2]
      simp only [e8]
      clear e0 e1 e2 e8
      obtain ⟨A, n, k, e_6, h6⟩ := r6
      rw [e_6]
      have hz := Below.size hx.undrew
      have HW6 := Lib.hid (HWR.out w1 A n k (Ext.trans hx1 hx.undrew) h6)
      clear h6
      go_wp2_with fail
      refine HW6.out.mono ?_
      rintro e w2 ⟨v1, vn, rfl, h1, h2, hb2⟩
      have h1 := Lib.hid (own_base h1 hz)
      have h2 := Lib.hid (own_base h2 hz)
      go_wp2
      exact ⟨rfl, hb2, v1, vn, rfl, h1.out, h2.out⟩
    · intro vals w1 hx hd ha
      have r9 : (fun v w1 => ∃ v1 vn, v = .tuple #[v1, vn, .int .i64 XE] ∧ OwnRc w1 W1.heap.size v1 XR ∧ OwnNt w1 W1.heap.size vn XN) (vals 9) w1 := hd 9 (by decide)
      dsimp only at r9
      clear hd ha
      simp only [Lf, dstAt, Act.put, List.getElem?_toArray, List.getElem?_cons_zero, List.getElem?_cons_succ, Option.bind_some, List.setIfInBounds_toArray, List.set_cons_zero, List.set_cons_succ]
      obtain ⟨v1, vn, e_9, h1, h2⟩ := r9
      rw [e_9]
      have h1 := Lib.hid h1
      have h2 := Lib.hid h2
      go_wp2
      exact ⟨rfl, Ext.refl _, v1, vn, rfl, h1.out, h2.out⟩
    · intro vals w1 hx hd ha
      have r10 : (fun v w1 => ∃ v1 vn, v = .tuple #[v1, vn, .int .i64 XE] ∧ OwnRc w1 W1.heap.size v1 XR ∧ OwnNt w1 W1.heap.size vn XN) (vals 10) w1 := hd 10 (by decide)
      dsimp only at r10
      clear hd ha
      simp only [Lf, dstAt, Act.put, List.getElem?_toArray, List.getElem?_cons_zero, List.getElem?_cons_succ, Option.bind_some, List.setIfInBounds_toArray, List.set_cons_zero, List.set_cons_succ]
      obtain ⟨v1, vn, e_9, h1, h2⟩ := r10
      rw [e_9]
      have h1 := Lib.hid h1
      clear h2
      go_wp2
      exact ⟨rfl, Ext.refl _, h1.out⟩
    · intro vals w1 hx hd ha
      have r10 : (fun v w1 => ∃ v1 vn, v = .tuple #[v1, vn, .int .i64 XE] ∧ OwnRc w1 W1.heap.size v1 XR ∧ OwnNt w1 W1.heap.size vn XN) (vals 10) w1 := hd 10 (by decide)
      dsimp only at r10
      clear hd ha
      simp only [Lf, dstAt, Act.put, List.getElem?_toArray, List.getElem?_cons_zero, List.getElem?_cons_succ, Option.bind_some, List.setIfInBounds_toArray, List.set_cons_zero, List.set_cons_succ]
      obtain ⟨v1, vn, e_9, h1, h2⟩ := r10
      rw [e_9]
      have h2 := Lib.hid h2
      clear h1
      go_wp2
      exact ⟨rfl, Ext.refl _, h2.out⟩
    · intro vals w1 hx hd ha
      have r10 : (fun v w1 => ∃ v1 vn, v = .tuple #[v1, vn, .int .i64 XE] ∧ OwnRc w1 W1.heap.size v1 XR ∧ OwnNt w1 W1.heap.size vn XN) (vals 10) w1 := hd 10 (by decide)
      dsimp only at r10
      clear hd ha
      simp only [Lf, dstAt, Act.put, List.getElem?_toArray, List.getElem?_cons_zero, List.getElem?_cons_succ, Option.bind_some, List.setIfInBounds_toArray, List.set_cons_zero, List.set_cons_succ]
      obtain ⟨v1, vn, e_9, h1, h2⟩ := r10
      rw [e_9]
      clear h1 h2
      go_wp2
      exact ⟨rfl, Ext.refl _, rfl⟩
    · intro vals w1 hx hd ha
      have e0 : vals 0 = .slice OA on oc := hd 0 (by decide)
      have e1 : vals 1 = .slice PA pn pc := hd 1 (by decide)
      have e2 : vals 2 = .slice SA 3 sc := hd 2 (by decide)
      have e3 : vals 3 = .slice PA pn pc := hd 3 (by decide)
      have e4 : vals 4 = .pointer (some ⟨g4, 5, none⟩) := hd 4 (by decide)
      have e5 : vals 5 = .int .i64 lo := hd 5 (by decide)
      have r6 : (fun v w1 => ∃ A n k, v = .slice A n k ∧ RA intCells 1 w1 w1.heap.size A n k LI) (vals 6) w1 := hd 6 (by decide)
      dsimp only at r6
      have e7 : vals 7 = .pointer (some ⟨g4, 6, none⟩) := hd 7 (by decide)
      have e8 : vals 8 = .slice wa wn wc := hd 8 (by decide)
      have r9 : (fun v w1 => ∃ v1 vn, v = .tuple #[v1, vn, .int .i64 XE] ∧ OwnRc w1 W1.heap.size v1 XR ∧ OwnNt w1 W1.heap.size vn XN) (vals 9) w1 := hd 9 (by decide)
      dsimp only at r9
      have r10 : (fun v w1 => ∃ v1 vn, v = .tuple #[v1, vn, .int .i64 XE] ∧ OwnRc w1 W1.heap.size v1 XR ∧ OwnNt w1 W1.heap.size vn XN) (vals 10) w1 := hd 10 (by decide)
      dsimp only at r10
      have r11 : (fun v w1 => OwnRc w1 W1.heap.size v XR) (vals 11) w1 := hd 11 (by decide)
      dsimp only at r11
      clear hd ha
      simp only [Lf, dstAt, Act.put, List.getElem?_toArray, List.getElem?_cons_zero, List.getElem?_cons_succ, Option.bind_some, List.setIfInBounds_toArray, List.set_cons_zero, List.set_cons_succ]
      simp only [e0]
      simp only [e1]
      simp only [e2]
      simp only [e3]
      simp only [e4]
      simp only [e5]
      simp only [e7]
      simp only [e8]
      clear e0 e1 e2 e3 e4 e5 e7 e8
      have r11 := Lib.hid r11
      go_wp2
      exact ⟨rfl, Ext.refl _, r11.out⟩
    · intro vals w1 hx hd ha
      have e0 : vals 0 = .slice OA on oc := hd 0 (by decide)
      have e1 : vals 1 = .slice PA pn pc := hd 1 (by decide)
      have e2 : vals 2 = .slice SA 3 sc := hd 2 (by decide)
      have e3 : vals 3 = .slice PA pn pc := hd 3 (by decide)
      have e4 : vals 4 = .pointer (some ⟨g4, 5, none⟩) := hd 4 (by decide)
      have e5 : vals 5 = .int .i64 lo := hd 5 (by decide)
      have r6 : (fun v w1 => ∃ A n k, v = .slice A n k ∧ RA intCells 1 w1 w1.heap.size A n k LI) (vals 6) w1 := hd 6 (by decide)
      dsimp only at r6
      have e7 : vals 7 = .pointer (some ⟨g4, 6, none⟩) := hd 7 (by decide)
      have e8 : vals 8 = .slice wa wn wc := hd 8 (by decide)
      have r9 : (fun v w1 => ∃ v1 vn, v = .tuple #[v1, vn, .int .i64 XE] ∧ OwnRc w1 W1.heap.size v1 XR ∧ OwnNt w1 W1.heap.size vn XN) (vals 9) w1 := hd 9 (by decide)
      dsimp only at r9
      have r10 : (fun v w1 => ∃ v1 vn, v = .tuple #[v1, vn, .int .i64 XE] ∧ OwnRc w1 W1.heap.size v1 XR ∧ OwnNt w1 W1.heap.size vn XN) (vals 10) w1 := hd 10 (by decide)
      dsimp only at r10
      have r11 : (fun v w1 => OwnRc w1 W1.heap.size v XR) (vals 11) w1 := hd 11 (by decide)
      dsimp only at r11
      have r12 : (fun v w1 => OwnNt w1 W1.heap.size v XN) (vals 12) w1 := hd 12 (by decide)
      dsimp only at r12
      have r14 : (fun v w1 => OwnRc w1 W1.heap.size v XR) (vals 14) w1 := hd 14 (by decide)
      dsimp only at r14
      clear hd ha
      simp only [Lf, dstAt, Act.put, List.getElem?_toArray, List.getElem?_cons_zero, List.getElem?_cons_succ, Option.bind_some, List.setIfInBounds_toArray, List.set_cons_zero, List.set_cons_succ]
      simp only [e0]
      simp only [e1]
      simp only [e2]
      simp only [e3]
      simp only [e4]
      simp only [e5]
      simp only [e7]
      simp only [e8]
      clear e0 e1 e2 e3 e4 e5 e7 e8
      have r12 := Lib.hid r12
      go_wp2
      exact ⟨rfl, Ext.refl _, r12.out⟩
    · intro vals w1 hx hd ha
      have e0 : vals 0 = .slice OA on oc := hd 0 (by decide)
      have e1 : vals 1 = .slice PA pn pc := hd 1 (by decide)
      have e2 : vals 2 = .slice SA 3 sc := hd 2 (by decide)
      have e3 : vals 3 = .slice PA pn pc := hd 3 (by decide)
      have e4 : vals 4 = .pointer (some ⟨g4, 5, none⟩) := hd 4 (by decide)
      have e5 : vals 5 = .int .i64 lo := hd 5 (by decide)
      have r6 : (fun v w1 => ∃ A n k, v = .slice A n k ∧ RA intCells 1 w1 w1.heap.size A n k LI) (vals 6) w1 := hd 6 (by decide)
      dsimp only at r6
      have e7 : vals 7 = .pointer (some ⟨g4, 6, none⟩) := hd 7 (by decide)
      have e8 : vals 8 = .slice wa wn wc := hd 8 (by decide)
      have r9 : (fun v w1 => ∃ v1 vn, v = .tuple #[v1, vn, .int .i64 XE] ∧ OwnRc w1 W1.heap.size v1 XR ∧ OwnNt w1 W1.heap.size vn XN) (vals 9) w1 := hd 9 (by decide)
      dsimp only at r9
      have r10 : (fun v w1 => ∃ v1 vn, v = .tuple #[v1, vn, .int .i64 XE] ∧ OwnRc w1 W1.heap.size v1 XR ∧ OwnNt w1 W1.heap.size vn XN) (vals 10) w1 := hd 10 (by decide)
      dsimp only at r10
      have r11 : (fun v w1 => OwnRc w1 W1.heap.size v XR) (vals 11) w1 := hd 11 (by decide)
      dsimp only at r11
      have r12 : (fun v w1 => OwnNt w1 W1.heap.size v XN) (vals 12) w1 := hd 12 (by decide)
      dsimp only at r12
      have e13 : vals 13 = .int .i64 XE := hd 13 (by decide)
      have r14 : (fun v w1 => OwnRc w1 W1.heap.size v XR) (vals 14) w1 := hd 14 (by decide)
      dsimp only at r14
      have r15 : (fun v w1 => OwnNt w1 W1.heap.size v XN) (vals 15) w1 := hd 15 (by decide)
      dsimp only at r15
      clear hd ha
      simp only [Lf, dstAt, Act.put, List.getElem?_toArray, List.getElem?_cons_zero, List.getElem?_cons_succ, Option.bind_some, List.setIfInBounds_toArray, List.set_cons_zero, List.set_cons_succ]
      simp only [e0, e1, e2, e3, e4, e5, e7, e8, e13]
      clear e0 e1 e2 e3 e4 e5 e7 e8 e13
      go_wp2
      exact ⟨rfl, Ext.refl _, rfl⟩
  intro vals W5 hy hf
  have h14 : OwnRc W5 W1.heap.size (vals 14) XR := hf 14 (by omega)
  have h15 : OwnNt W5 W1.heap.size (vals 15) XN := hf 15 (by omega)
  have h16 : vals 16 = .int .i64 XE := hf 16 (by omega)
  have hy := hy.undrew
  obtain ⟨RA_, rc, hv1, _, _⟩ := own_slice h14
  obtain ⟨NA, nc, hv2, _, _⟩ := own_slice h15
  rw [hv1] at h14
  rw [hv2] at h15
  have HX := Lib.hid (Ext.trans hx1 hy)
  have H14 : Hid (RA rcpCells 3 W5 W5.heap.size RA_ XR.length rc XR) := Lib.hid (RA.of_own h14 rfl (by omega))
  have H15 : Hid (RA nteCells 3 W5 W5.heap.size NA XN.length nc XN) := Lib.hid (RA.of_own h15 rfl (by omega))
  clear hf h14 h15 hy hx1 d5 d6 HLO HWR
  refine tail0 (by kernel_rfl) ?_
  simp only [Lf, dstAt, Act.put, List.getElem?_toArray, List.getElem?_cons_zero, List.getElem?_cons_succ, Option.bind_some, List.setIfInBounds_toArray, List.set_cons_zero, List.set_cons_succ]
  rw [hv1, hv2, h16]
  clear hv1 hv2 h16
  by_cases he : XE = 0
  · subst he
    go_wp2
    exact bodyPost_ret (v := .tuple #[.slice RA_ XR.length rc, .slice NA XN.length nc, .bool true]) (by simp [results, Try.results12, go_sem]) rfl ⟨_, _, _, _, by rw [HFIN.out]; rfl, H14.out, H15.out, HX.out⟩
  · have he1 : (XE == 0) = false := by simpa using he
    go_wp2
    exact bodyPost_ret (v := .tuple #[.slice RA_ XR.length rc, .slice NA XN.length nc, .bool false]) (by simp [results, Try.results12, go_sem]) rfl ⟨_, _, _, _, by rw [HFIN.out, decide_eq_false he], H14.out, H15.out, HX.out⟩
end Go.Proofs.Ytmlabgmigakcbaa
namespace Go.Proofs.Ytmlabgmigakcbaa
open Go.RowKit

def okN (o : Opp) (now : Int) (n : Nte) : Bool := decide (n.im = o.id ∧ 0 ≤ n.slot ∧ n.slot < o.l.length ∧ ttAt o.l n.slot.toNat ≤ now)
def lefK (how : List Int) (i : Nat) : Nat := if i < how.length then (pickI (how.getD i 0) 7).toNat else 6
def hearG (how : List Int) (now : Int) (ns : List Nte) : Nat → List Opp → List Nte
  | _, [] => []
  | i, o :: r => (ns.filter (okN o now)).take (lefK how i) ++ hearG how now ns (i + 1) r
theorem hearG_cons (how : List Int) (now : Int) (ns : List Nte) (i : Nat) (o : Opp) (r : List Opp) : hearG how now ns i (o :: r) = (ns.filter (okN o now)).take (lefK how i) ++ hearG how now ns (i + 1) r := by rw [hearG]
def heardP (os : List Opp) (ns : List Nte) (how : List Int) (now : Int) : List Nte := hearG how now ns 0 os


set_option maxRecDepth 100000 in
set_option maxHeartbeats 16000000 in
theorem heard_any (os : List Opt) (ns : List Nte) (how : List Int) (now : Int) (OA NA HA : Option Addr) (on oc nn nc hn hc : Nat) (w : World) (ho : Ops w w.heap.size OA on oc os) (hns : RA nteCells 3 w w.heap.size NA nn nc ns) (hh : RA intCells 1 w w.heap.size HA hn hc how) (hok : ∀ x ∈ how, I64ok x) (hon : on ≤ 8) (hnn : nn ≤ 60) :
    Calls Try.prog 31 #[.slice OA on oc, .slice NA nn nc, .slice HA hn hc, .int .i64 now] w fun e w' => ∃ v, e = .returned v ∧ OwnNt w' w.heap.size v (heardP (os.map Opt.p) ns how now) ∧ Ext w w' := by
  have hhle := hh.le
  have HOP := Lib.hid ho
  have HN := Lib.hid hns
  have HH := Lib.hid hh
  have HHK := Lib.hid hok
  obtain ⟨fin, hfin⟩ : ∃ x, x = heardP (os.map Opt.p) ns how now := ⟨_, rfl⟩
  rw [← hfin]
  have HF0 : Hid (fin = [] ++ hearG how now ns 0 ((os.map Opt.p).drop 0)) := Lib.hid hfin
  clear hfin ho hns hh hok
  go_enter Try.func31, Try.ntmps31
  go_wp2
  go_loopw [9, 10] (fun x y wr => ∃ (k : Nat) (out : List Nte), k ≤ on ∧ y = .int .i64 k ∧ Hid (fin = out ++ hearG how now ns k ((os.map Opt.p).drop k)) ∧ Hid (OwnNt wr w.heap.size x out) ∧ out.length ≤ 60 * k ∧ Ext w wr) (fun _ y _ => on - (intOf y).toNat)
  case atStart => exact ⟨0, [], Nat.zero_le _, rfl, HF0, Lib.hid (World.ownsRow_nil _ _ _ _), Nat.zero_le _, Ext.refl _⟩
  case round =>
    clear HF0
    obtain ⟨k, out0, hk, rfl, HF, HO, hol, hx⟩ := hrel
    obtain ⟨A3, c3, hv3, _, _⟩ := own_slice HO.out
    subst hv3
    by_cases hkn : k < on
    · have hzk : k < os.length := by rw [HOP.out.out.len]; exact hkn
      have hst := HF.out
      rw [List.drop_eq_getElem_cons (by rw [List.length_map]; exact hzk), hearG_cons, List.getElem_map] at hst
      obtain ⟨o, hoe⟩ : ∃ o, o = os[k] := ⟨_, rfl⟩
      rw [← hoe] at hst
      have HOK : Hid (∀ h : k < os.length, o = os[k]) := Lib.hid (fun _ => hoe)
      have hea := HOP.out.each o (by rw [hoe]; exact List.getElem_mem hzk)
      have HOS := Lib.hid hea
      have HOL := Lib.hid hea.len
      clear hea hoe
      obtain ⟨FI, hFI⟩ : ∃ F, F = out0 ++ (ns.filter (okN o.p now)).take (lefK how k) := ⟨_, rfl⟩
      have HST : Hid (fin = FI ++ hearG how now ns (k + 1) ((os.map Opt.p).drop (k + 1))) := Lib.hid (by rw [hst, hFI]; simp)
      have HKN := Lib.hid hkn
      clear hst
      by_cases hkh : k < hn
      · obtain ⟨bh, oh, hzh, hAh, _, hch⟩ := (HH.out.below hx).at_ int_len hkh
        have h0 : wr.cell? ⟨bh, oh + k, none⟩ = some (.int .i64 how[k]) := by have h := hch 0 (by omega); rw [Nat.mul_one] at h; exact h
        have hlf : lefK how k = (pickI how[k] 7).toNat := by unfold lefK; rw [if_pos hzh, List.getD_eq_getElem?_getD, List.getElem?_eq_getElem hzh]; rfl
        have hik := HHK.out how[k] (List.getElem_mem hzh)
        rw [hlf] at hFI
        generalize how[k] = hv at h0 hFI hik
        have PK := fun W => pickl_any hv 7 W hik.1 hik.2 (by omega) (by omega)
        have hpb := pickI_bd hv 7 (by omega)
        generalize pickI hv 7 = pv at PK hpb hFI
        obtain ⟨left0, rfl⟩ : ∃ q : Nat, pv = q := ⟨pv.toNat, by omega⟩
        rw [show ((left0 : Int)).toNat = left0 by omega] at hFI
        have hl6 : left0 ≤ 6 := by omega
        have HFI : Hid (FI = out0 ++ ((ns.drop 0).filter (okN o.p now)).take left0) := Lib.hid hFI
        have HPK := Lib.hid PK
        have hAh2 := hAh
        have hkhz : (k : Int) < (hn : Int) := by omega
        rw [hAh]
        clear hch hlf hik PK hFI HF hpb
        go_wp2_with fail
        refine (HPK.out _).mono ?_
        rintro e w2 ⟨rfl, rfl⟩
        clear h0 HPK
        go_wp2_with fail
        go_loopw [9, 11, 12] (fun x y z wi => ∃ (j left : Nat) (out : List Nte), j ≤ nn ∧ z = .int .i64 j ∧ y = .int .i64 left ∧ left ≤ 6 ∧ Hid (FI = out ++ ((ns.drop j).filter (okN o.p now)).take left) ∧ Hid (OwnNt wi w.heap.size x out) ∧ out.length ≤ 60 * k + j ∧ Ext w wi) (fun _ _ z _ => nn - (intOf z).toNat)
        case atStart => exact ⟨0, left0, out0, Nat.zero_le _, rfl, rfl, hl6, HFI, HO, by omega, hx⟩
        case round =>
          clear HFI HO hx hol hl6
          obtain ⟨j, left, out, hj, rfl, rfl, hl6, HF, HO, hol, hx⟩ := hrel
          obtain ⟨A3, c3, hv3, _, _⟩ := own_slice HO.out
          subst hv3
          by_cases hjn : j < nn
          · obtain ⟨bn, on_, hzn, hAn, _, hcn⟩ := (HN.out.below hx).at_ nte_len hjn
            obtain ⟨bo, oo, hzo, hAo, _, hco⟩ := (HOP.out.below hx).out.at_ opt_len hkn
            have hst := HF.out
            rw [List.drop_eq_getElem_cons hzn, List.filter_cons] at hst
            have hco0 := hco 0 (by omega)
            have hco8 := hco 8 (by omega)
            rw [← HOK.out hzo] at hco0 hco8
            generalize ns[j] = nt at hst hcn
            obtain ⟨nim, nsl, nis⟩ := nt
            have n0 : wr.cell? ⟨bn, on_ + j * 3, none⟩ = some (.int .i64 nim) := hcn 0 (by omega)
            have n1 : wr.cell? ⟨bn, on_ + j * 3 + 1, none⟩ = some (.int .i64 nsl) := hcn 1 (by omega)
            have n2 : wr.cell? ⟨bn, on_ + j * 3 + 2, none⟩ = some (.bool nis) := hcn 2 (by omega)
            have o0 : wr.cell? ⟨bo, oo + k * 9, none⟩ = some (.int .i64 o.id) := hco0
            have o8 : wr.cell? ⟨bo, oo + k * 9 + 8, none⟩ = some (.slice o.a o.n o.c) := hco8
            have o8' : wr.cell? ⟨bo, oo + k * 9 + (7 + 1), none⟩ = some (.slice o.a o.n o.c) := hco8
            have HST := Lib.hid hst
            rw [hAn, hAo]
            clear hcn hco hco0 hco8 hst HF
            have hkz : (k : Int) < (on : Int) := by omega
            have hjz : (j : Int) < (nn : Int) := by omega
            have HJ := Lib.hid hjn
            go_upto_region 11 with (fail)
            by_cases hok : okN o.p now ⟨nim, nsl, nis⟩ = true
            · have hok2 := of_decide_eq_true hok
              obtain ⟨q1, q2, q3, q4⟩ := hok2
              have q1 : nim = o.id := q1
              have q3 : nsl < (o.l.length : Int) := q3
              have q4 : ttAt o.l nsl.toNat ≤ now := q4
              dsimp only at q2
              obtain ⟨sl, rfl⟩ : ∃ q : Nat, nsl = q := ⟨nsl.toNat, by omega⟩
              have hsln : sl < o.n := by rw [← HOL.out]; omega
              obtain ⟨bs, os_, hzs, hAs, _, hcs⟩ := (HOS.out.below hx).at_ slt_len hsln
              have e2 : wr.cell? ⟨bs, os_ + sl * 3 + 2, none⟩ = some (.int .i64 (ttAt o.l sl)) := by rw [ttAt_eq hzs]; exact hcs 2 (by omega)
              rw [show ((sl : Int)).toNat = sl by omega] at q4
              generalize ttAt o.l sl = tt at q4 e2
              subst q1
              have him1 : (o.id == o.id) = true := by simp
              have him2 : (o.id != o.id) = false := by simp
              rw [hAs] at o8 o8'
              have hn1 : ¬ (sl : Int) < 0 := by omega
              have hn2 : ¬ (o.n : Int) ≤ (sl : Int) := by omega
              have hn3 : (sl : Int) < (o.n : Int) := by omega
              have hn4 : decide ((o.n : Int) ≤ (sl : Int)) = false := by simpa using hsln
              have hst := HST.out
              rw [if_pos hok] at hst
              rcases Nat.eq_zero_or_pos left with hl0 | hl0
              · subst hl0
                have HN2 : Hid (FI = out ++ ((ns.drop (j + 1)).filter (okN o.p now)).take 0) := Lib.hid (by rw [hst]; simp)
                clear hcs hst HST hok q3
                go_quiet (fail)
                have hy : Ext wr (wr.drewN nq) := (by repeat (first | exact Below.refl _ _ | assumption | refine Below.drew ?_ | refine below_drewN ?_ _ | refine bl_alloc ?_ _ | refine Below.setCell ?_ (by first | (simp; done) | omega | (simp; omega)) _ | refine bl_then ?_ (by assumption)))
                have HY := Lib.hid hy
                clear hy n0 n1 n2 o0 o8 o8' e2
                go_wp2
                go_roundw
                case rel => exact ⟨j + 1, 0, out, HJ.out, by go_num, rfl, by omega, HN2, Lib.hid (HO.out.ext HY.out), by omega, Ext.trans hx HY.out⟩
                case measure => have := HJ.out; simp [intOf]; omega
              · obtain ⟨l1, rfl⟩ : ∃ q, left = q + 1 := ⟨left - 1, by omega⟩
                have HN2 : Hid (FI = (out ++ [(⟨o.id, sl, nis⟩ : Nte)]) ++ ((ns.drop (j + 1)).filter (okN o.p now)).take l1) := Lib.hid (by rw [hst]; simp; rfl)
                have hl2 : ((l1 : Int) + 1 == 0) = false := by simpa using (by omega : ¬ (l1 : Int) + 1 = 0)
                have hl3 : ¬ (l1 : Int) + 1 = 0 := by omega
                have hl4 : (l1 : Int) + 1 - 1 = (l1 : Int) := by omega
                clear hcs hst HST hok q3
                go_quiet (fail)
                have hy : Ext wr (wr.drewN nq) := (by repeat (first | exact Below.refl _ _ | assumption | refine Below.drew ?_ | refine below_drewN ?_ _ | refine bl_alloc ?_ _ | refine Below.setCell ?_ (by first | (simp; done) | omega | (simp; omega)) _ | refine bl_then ?_ (by assumption)))
                have n0 := ext_cell hy n0
                have n1 := ext_cell hy n1
                have n2 := ext_cell hy n2
                have o8 := ext_cell hy o8
                have o8' := ext_cell hy o8'
                have e2 := ext_cell hy e2
                generalize wr.drewN nq = W5 at hy n0 n1 n2 o8 o8' e2 ⊢
                go_upto_region 12 with (fail)
                go_quiet (fail)
                have hy2 : Ext W5 (W5.drewN nq) := (by repeat (first | exact Below.refl _ _ | assumption | refine Below.drew ?_ | refine below_drewN ?_ _ | refine bl_alloc ?_ _ | refine Below.setCell ?_ (by first | (simp; done) | omega | (simp; omega)) _ | refine bl_then ?_ (by assumption)))
                have n0 := ext_cell hy2 n0
                have n1 := ext_cell hy2 n1
                have n2 := ext_cell hy2 n2
                have hy := Ext.trans hy hy2
                generalize W5.drewN nq = W6 at hy n0 n1 n2 ⊢
                clear hy2 o8 o8' e2 o0
                have hxa : Ext W6 (W6.alloc (.cells #[.int .i64 o.id, .int .i64 (sl : Int), .bool nis] 89)) := bl_alloc (Below.refl _ _) _
                have hxw := Ext.trans (Ext.trans hx hy) hxa
                obtain ⟨v7, W7, hrun, hg7, ho7⟩ := nte_snoc 34 out (.slice A3 out.length c3) ⟨o.id, sl, nis⟩ w.heap.size W6.heap.size (Blk.new _ _ _) ((HO.out.ext hy).ext hxa) (by omega) (Below.size hxw)
                have HX7 : Hid (Ext w W7) := Lib.hid (hxw.grown hg7 (Below.size hxw) (fun q e => (World.ownsRow.lt HO.out q e).1))
                have HO7 := Lib.hid ho7
                have HRUN := Lib.hid hrun
                clear hrun hg7 ho7 hxa hxw hy
                go_upto_region 14 with (refine wpList_append_run_ rfl _ _ _ rfl rfl rfl HRUN.out ?_)
                clear n0 n1 n2 HRUN
                go_wp2
                go_roundw
                case rel => exact ⟨j + 1, l1, _, HJ.out, by go_num, by go_num, by omega, HN2, HO7, by simp; omega, HX7.out⟩
                case measure => have := HJ.out; simp [intOf]; omega
            · have HN2 : Hid (FI = out ++ ((ns.drop (j + 1)).filter (okN o.p now)).take left) := Lib.hid (by rw [HST.out, if_neg hok])
              have HOK2 : Hid (¬ (nim = o.id ∧ 0 ≤ nsl ∧ nsl < (o.l.length : Int) ∧ ttAt o.l nsl.toNat ≤ now)) := Lib.hid (fun h => hok (decide_eq_true h))
              clear HST hok
              by_cases hm1 : nim = o.id
              · subst hm1
                have him1 : (o.id == o.id) = true := by simp
                have him2 : (o.id != o.id) = false := by simp
                by_cases hl0 : left = 0
                · subst hl0
                  go_quiet (fail)
                  have hy : Ext wr (wr.drewN nq) := (by repeat (first | exact Below.refl _ _ | assumption | refine Below.drew ?_ | refine below_drewN ?_ _ | refine bl_alloc ?_ _ | refine Below.setCell ?_ (by first | (simp; done) | omega | (simp; omega)) _ | refine bl_then ?_ (by assumption)))
                  have HY := Lib.hid hy
                  clear hy n0 n1 n2 o0 o8 o8'
                  go_wp2
                  go_roundw
                  case rel => exact ⟨j + 1, 0, out, HJ.out, by go_num, rfl, by omega, HN2, Lib.hid (HO.out.ext HY.out), by omega, Ext.trans hx HY.out⟩
                  case measure => have := HJ.out; simp [intOf]; omega
                · have hl2 : ((left : Int) == 0) = false := by simpa using hl0
                  have hl3 : ¬ (left : Int) = 0 := by omega
                  by_cases hs0 : nsl < 0
                  · go_quiet (fail)
                    have hy : Ext wr (wr.drewN nq) := (by repeat (first | exact Below.refl _ _ | assumption | refine Below.drew ?_ | refine below_drewN ?_ _ | refine bl_alloc ?_ _ | refine Below.setCell ?_ (by first | (simp; done) | omega | (simp; omega)) _ | refine bl_then ?_ (by assumption)))
                    have HY := Lib.hid hy
                    clear hy n0 n1 n2 o0 o8 o8'
                    go_wp2
                    go_roundw
                    case rel => exact ⟨j + 1, left, out, HJ.out, by go_num, rfl, by omega, HN2, Lib.hid (HO.out.ext HY.out), by omega, Ext.trans hx HY.out⟩
                    case measure => have := HJ.out; simp [intOf]; omega
                  · by_cases hs1 : (o.n : Int) ≤ nsl
                    · go_quiet (fail)
                      have hy : Ext wr (wr.drewN nq) := (by repeat (first | exact Below.refl _ _ | assumption | refine Below.drew ?_ | refine below_drewN ?_ _ | refine bl_alloc ?_ _ | refine Below.setCell ?_ (by first | (simp; done) | omega | (simp; omega)) _ | refine bl_then ?_ (by assumption)))
                      have HY := Lib.hid hy
                      clear hy n0 n1 n2 o0 o8 o8'
                      go_wp2
                      go_roundw
                      case rel => exact ⟨j + 1, left, out, HJ.out, by go_num, rfl, by omega, HN2, Lib.hid (HO.out.ext HY.out), by omega, Ext.trans hx HY.out⟩
                      case measure => have := HJ.out; simp [intOf]; omega
                    · obtain ⟨sl, rfl⟩ : ∃ q : Nat, nsl = q := ⟨nsl.toNat, by omega⟩
                      have hsln : sl < o.n := by omega
                      obtain ⟨bs, os_, hzs, hAs, _, hcs⟩ := (HOS.out.below hx).at_ slt_len hsln
                      have e2 : wr.cell? ⟨bs, os_ + sl * 3 + 2, none⟩ = some (.int .i64 (ttAt o.l sl)) := by rw [ttAt_eq hzs]; exact hcs 2 (by omega)
                      have htt : ¬ ttAt o.l sl ≤ now := fun h => HOK2.out ⟨rfl, by omega, by have := HOL.out; omega, by rw [show ((sl : Int)).toNat = sl by omega]; exact h⟩
                      generalize ttAt o.l sl = tt at htt e2
                      rw [hAs] at o8 o8'
                      have hn1 : ¬ (sl : Int) < 0 := by omega
                      have hn2 : ¬ (o.n : Int) ≤ (sl : Int) := by omega
                      have hn3 : (sl : Int) < (o.n : Int) := by omega
                      have hn4 : decide ((o.n : Int) ≤ (sl : Int)) = false := by simpa using hsln
                      clear hcs hs0 hs1
                      go_quiet (fail)
                      have hy : Ext wr (wr.drewN nq) := (by repeat (first | exact Below.refl _ _ | assumption | refine Below.drew ?_ | refine below_drewN ?_ _ | refine bl_alloc ?_ _ | refine Below.setCell ?_ (by first | (simp; done) | omega | (simp; omega)) _ | refine bl_then ?_ (by assumption)))
                      have n0 := ext_cell hy n0
                      have n1 := ext_cell hy n1
                      have o8 := ext_cell hy o8
                      have o8' := ext_cell hy o8'
                      have e2 := ext_cell hy e2
                      generalize wr.drewN nq = W5 at hy n0 n1 o8 o8' e2 ⊢
                      go_upto_region 12 with (fail)
                      go_quiet (fail)
                      have hy2 : Ext W5 (W5.drewN nq) := (by repeat (first | exact Below.refl _ _ | assumption | refine Below.drew ?_ | refine below_drewN ?_ _ | refine bl_alloc ?_ _ | refine Below.setCell ?_ (by first | (simp; done) | omega | (simp; omega)) _ | refine bl_then ?_ (by assumption)))
                      have HY := Lib.hid (Ext.trans hy hy2)
                      clear hy hy2 n0 n1 n2 o0 o8 o8' e2
                      go_wp2
                      go_roundw
                      case rel => exact ⟨j + 1, left, out, HJ.out, by go_num, rfl, hl6, HN2, Lib.hid (HO.out.ext HY.out), by omega, Ext.trans hx HY.out⟩
                      case measure => have := HJ.out; simp [intOf]; omega
              · have him1 : (nim == o.id) = false := by simpa using hm1
                have him2 : (nim != o.id) = true := by simpa using hm1
                go_quiet (fail)
                have hy : Ext wr (wr.drewN nq) := (by repeat (first | exact Below.refl _ _ | assumption | refine Below.drew ?_ | refine below_drewN ?_ _ | refine bl_alloc ?_ _ | refine Below.setCell ?_ (by first | (simp; done) | omega | (simp; omega)) _ | refine bl_then ?_ (by assumption)))
                have HY := Lib.hid hy
                clear hy n0 n1 n2 o0 o8 o8'
                go_wp2
                go_roundw
                case rel => exact ⟨j + 1, left, out, HJ.out, by go_num, rfl, by omega, HN2, Lib.hid (HO.out.ext HY.out), by omega, Ext.trans hx HY.out⟩
                case measure => have := HJ.out; simp [intOf]; omega
          · have hFF : FI = out := by rw [HF.out, List.drop_of_length_le (by rw [HN.out.len]; omega)]; simp
            have HN2 : Hid (fin = out ++ hearG how now ns (k + 1) ((os.map Opt.p).drop (k + 1))) := Lib.hid (by rw [HST.out, hFF])
            clear hFF HF HST
            go_wp2
            go_roundw
            case rel => exact ⟨k + 1, out, HKN.out, by go_num, HN2, HO, by omega, hx⟩
            case measure => have := HKN.out; simp [intOf]; omega
      · have hlf : lefK how k = 6 := by unfold lefK; rw [if_neg (by rw [HH.out.len]; exact hkh)]
        rw [hlf] at hFI
        obtain ⟨left0, hl0⟩ : ∃ q : Nat, q = 6 := ⟨_, rfl⟩
        rw [← hl0] at hFI
        have hl6 : left0 ≤ 6 := by omega
        have HFI : Hid (FI = out0 ++ ((ns.drop 0).filter (okN o.p now)).take left0) := Lib.hid hFI
        have hkhz : ¬ (k : Int) < (hn : Int) := by omega
        clear hlf hFI HF
        subst hl0
        obtain ⟨left0, hl0⟩ : ∃ q : Nat, q = 6 := ⟨_, rfl⟩
        rw [← hl0] at HFI hl6
        subst hl0
        go_wp2_with fail
        go_loopw [9, 11, 12] (fun x y z wi => ∃ (j left : Nat) (out : List Nte), j ≤ nn ∧ z = .int .i64 j ∧ y = .int .i64 left ∧ left ≤ 6 ∧ Hid (FI = out ++ ((ns.drop j).filter (okN o.p now)).take left) ∧ Hid (OwnNt wi w.heap.size x out) ∧ out.length ≤ 60 * k + j ∧ Ext w wi) (fun _ _ z _ => nn - (intOf z).toNat)
        case atStart => exact ⟨0, 6, out0, Nat.zero_le _, rfl, rfl, hl6, HFI, HO, by omega, hx⟩
        case round =>
          clear HFI HO hx hol hl6
          obtain ⟨j, left, out, hj, rfl, rfl, hl6, HF, HO, hol, hx⟩ := hrel
          obtain ⟨A3, c3, hv3, _, _⟩ := own_slice HO.out
          subst hv3
          by_cases hjn : j < nn
          · obtain ⟨bn, on_, hzn, hAn, _, hcn⟩ := (HN.out.below hx).at_ nte_len hjn
            obtain ⟨bo, oo, hzo, hAo, _, hco⟩ := (HOP.out.below hx).out.at_ opt_len hkn
            have hst := HF.out
            rw [List.drop_eq_getElem_cons hzn, List.filter_cons] at hst
            have hco0 := hco 0 (by omega)
            have hco8 := hco 8 (by omega)
            rw [← HOK.out hzo] at hco0 hco8
            generalize ns[j] = nt at hst hcn
            obtain ⟨nim, nsl, nis⟩ := nt
            have n0 : wr.cell? ⟨bn, on_ + j * 3, none⟩ = some (.int .i64 nim) := hcn 0 (by omega)
            have n1 : wr.cell? ⟨bn, on_ + j * 3 + 1, none⟩ = some (.int .i64 nsl) := hcn 1 (by omega)
            have n2 : wr.cell? ⟨bn, on_ + j * 3 + 2, none⟩ = some (.bool nis) := hcn 2 (by omega)
            have o0 : wr.cell? ⟨bo, oo + k * 9, none⟩ = some (.int .i64 o.id) := hco0
            have o8 : wr.cell? ⟨bo, oo + k * 9 + 8, none⟩ = some (.slice o.a o.n o.c) := hco8
            have o8' : wr.cell? ⟨bo, oo + k * 9 + (7 + 1), none⟩ = some (.slice o.a o.n o.c) := hco8
            have HST := Lib.hid hst
            rw [hAn, hAo]
            clear hcn hco hco0 hco8 hst HF
            have hkz : (k : Int) < (on : Int) := by omega
            have hjz : (j : Int) < (nn : Int) := by omega
            have HJ := Lib.hid hjn
            go_upto_region 11 with (fail)
            by_cases hok : okN o.p now ⟨nim, nsl, nis⟩ = true
            · have hok2 := of_decide_eq_true hok
              obtain ⟨q1, q2, q3, q4⟩ := hok2
              have q1 : nim = o.id := q1
              have q3 : nsl < (o.l.length : Int) := q3
              have q4 : ttAt o.l nsl.toNat ≤ now := q4
              dsimp only at q2
              obtain ⟨sl, rfl⟩ : ∃ q : Nat, nsl = q := ⟨nsl.toNat, by omega⟩
              have hsln : sl < o.n := by rw [← HOL.out]; omega
              obtain ⟨bs, os_, hzs, hAs, _, hcs⟩ := (HOS.out.below hx).at_ slt_len hsln
              have e2 : wr.cell? ⟨bs, os_ + sl * 3 + 2, none⟩ = some (.int .i64 (ttAt o.l sl)) := by rw [ttAt_eq hzs]; exact hcs 2 (by omega)
              rw [show ((sl : Int)).toNat = sl by omega] at q4
              generalize ttAt o.l sl = tt at q4 e2
              subst q1
              have him1 : (o.id == o.id) = true := by simp
              have him2 : (o.id != o.id) = false := by simp
              rw [hAs] at o8 o8'
              have hn1 : ¬ (sl : Int) < 0 := by omega
              have hn2 : ¬ (o.n : Int) ≤ (sl : Int) := by omega
              have hn3 : (sl : Int) < (o.n : Int) := by omega
              have hn4 : decide ((o.n : Int) ≤ (sl : Int)) = false := by simpa using hsln
              have hst := HST.out
              rw [if_pos hok] at hst
              rcases Nat.eq_zero_or_pos left with hl0 | hl0
              · subst hl0
                have HN2 : Hid (FI = out ++ ((ns.drop (j + 1)).filter (okN o.p now)).take 0) := Lib.hid (by rw [hst]; simp)
                clear hcs hst HST hok q3
                go_quiet (fail)
                have hy : Ext wr (wr.drewN nq) := (by repeat (first | exact Below.refl _ _ | assumption | refine Below.drew ?_ | refine below_drewN ?_ _ | refine bl_alloc ?_ _ | refine Below.setCell ?_ (by first | (simp; done) | omega | (simp; omega)) _ | refine bl_then ?_ (by assumption)))
                have HY := Lib.hid hy
                clear hy n0 n1 n2 o0 o8 o8' e2
                go_wp2
                go_roundw
                case rel => exact ⟨j + 1, 0, out, HJ.out, by go_num, rfl, by omega, HN2, Lib.hid (HO.out.ext HY.out), by omega, Ext.trans hx HY.out⟩
                case measure => have := HJ.out; simp [intOf]; omega
              · obtain ⟨l1, rfl⟩ : ∃ q, left = q + 1 := ⟨left - 1, by omega⟩
                have HN2 : Hid (FI = (out ++ [(⟨o.id, sl, nis⟩ : Nte)]) ++ ((ns.drop (j + 1)).filter (okN o.p now)).take l1) := Lib.hid (by rw [hst]; simp; rfl)
                have hl2 : ((l1 : Int) + 1 == 0) = false := by simpa using (by omega : ¬ (l1 : Int) + 1 = 0)
                have hl3 : ¬ (l1 : Int) + 1 = 0 := by omega
                have hl4 : (l1 : Int) + 1 - 1 = (l1 : Int) := by omega
                clear hcs hst HST hok q3
                go_quiet (fail)
                have hy : Ext wr (wr.drewN nq) := (by repeat (first | exact Below.refl _ _ | assumption | refine Below.drew ?_ | refine below_drewN ?_ _ | refine bl_alloc ?_ _ | refine Below.setCell ?_ (by first | (simp; done) | omega | (simp; omega)) _ | refine bl_then ?_ (by assumption)))
                have n0 := ext_cell hy n0
                have n1 := ext_cell hy n1
                have n2 := ext_cell hy n2
                have o8 := ext_cell hy o8
                have o8' := ext_cell hy o8'
                have e2 := ext_cell hy e2
                generalize wr.drewN nq = W5 at hy n0 n1 n2 o8 o8' e2 ⊢
                go_upto_region 12 with (fail)
                go_quiet (fail)
                have hy2 : Ext W5 (W5.drewN nq) := (by repeat (first | exact Below.refl _ _ | assumption | refine Below.drew ?_ | refine below_drewN ?_ _ | refine bl_alloc ?_ _ | refine Below.setCell ?_ (by first | (simp; done) | omega | (simp; omega)) _ | refine bl_then ?_ (by assumption)))
                have n0 := ext_cell hy2 n0
                have n1 := ext_cell hy2 n1
                have n2 := ext_cell hy2 n2
                have hy := Ext.trans hy hy2
                generalize W5.drewN nq = W6 at hy n0 n1 n2 ⊢
                clear hy2 o8 o8' e2 o0
                have hxa : Ext W6 (W6.alloc (.cells #[.int .i64 o.id, .int .i64 (sl : Int), .bool nis] 89)) := bl_alloc (Below.refl _ _) _
                have hxw := Ext.trans (Ext.trans hx hy) hxa
                obtain ⟨v7, W7, hrun, hg7, ho7⟩ := nte_snoc 34 out (.slice A3 out.length c3) ⟨o.id, sl, nis⟩ w.heap.size W6.heap.size (Blk.new _ _ _) ((HO.out.ext hy).ext hxa) (by omega) (Below.size hxw)
                have HX7 : Hid (Ext w W7) := Lib.hid (hxw.grown hg7 (Below.size hxw) (fun q e => (World.ownsRow.lt HO.out q e).1))
                have HO7 := Lib.hid ho7
                have HRUN := Lib.hid hrun
                clear hrun hg7 ho7 hxa hxw hy
                go_upto_region 14 with (refine wpList_append_run_ rfl _ _ _ rfl rfl rfl HRUN.out ?_)
                clear n0 n1 n2 HRUN
                go_wp2
                go_roundw
                case rel => exact ⟨j + 1, l1, _, HJ.out, by go_num, by go_num, by omega, HN2, HO7, by simp; omega, HX7.out⟩
                case measure => have := HJ.out; simp [intOf]; omega
            · have HN2 : Hid (FI = out ++ ((ns.drop (j + 1)).filter (okN o.p now)).take left) := Lib.hid (by rw [HST.out, if_neg hok])
              have HOK2 : Hid (¬ (nim = o.id ∧ 0 ≤ nsl ∧ nsl < (o.l.length : Int) ∧ ttAt o.l nsl.toNat ≤ now)) := Lib.hid (fun h => hok (decide_eq_true h))
              clear HST hok
              by_cases hm1 : nim = o.id
              · subst hm1
                have him1 : (o.id == o.id) = true := by simp
                have him2 : (o.id != o.id) = false := by simp
                by_cases hl0 : left = 0
                · subst hl0
                  go_quiet (fail)
                  have hy : Ext wr (wr.drewN nq) := (by repeat (first | exact Below.refl _ _ | assumption | refine Below.drew ?_ | refine below_drewN ?_ _ | refine bl_alloc ?_ _ | refine Below.setCell ?_ (by first | (simp; done) | omega | (simp; omega)) _ | refine bl_then ?_ (by assumption)))
                  have HY := Lib.hid hy
                  clear hy n0 n1 n2 o0 o8 o8'
                  go_wp2
                  go_roundw
                  case rel => exact ⟨j + 1, 0, out, HJ.out, by go_num, rfl, by omega, HN2, Lib.hid (HO.out.ext HY.out), by omega, Ext.trans hx HY.out⟩
                  case measure => have := HJ.out; simp [intOf]; omega
                · have hl2 : ((left : Int) == 0) = false := by simpa using hl0
                  have hl3 : ¬ (left : Int) = 0 := by omega
                  by_cases hs0 : nsl < 0
                  · go_quiet (fail)
                    have hy : Ext wr (wr.drewN nq) := (by repeat (first | exact Below.refl _ _ | assumption | refine Below.drew ?_ | refine below_drewN ?_ _ | refine bl_alloc ?_ _ | refine Below.setCell ?_ (by first | (simp; done) | omega | (simp; omega)) _ | refine bl_then ?_ (by assumption)))
                    have HY := Lib.hid hy
                    clear hy n0 n1 n2 o0 o8 o8'
                    go_wp2
                    go_roundw
                    case rel => exact ⟨j + 1, left, out, HJ.out, by go_num, rfl, by omega, HN2, Lib.hid (HO.out.ext HY.out), by omega, Ext.trans hx HY.out⟩
                    case measure => have := HJ.out; simp [intOf]; omega
                  · by_cases hs1 : (o.n : Int) ≤ nsl
                    · go_quiet (fail)
                      have hy : Ext wr (wr.drewN nq) := (by repeat (first | exact Below.refl _ _ | assumption | refine Below.drew ?_ | refine below_drewN ?_ _ | refine bl_alloc ?_ _ | refine Below.setCell ?_ (by first | (simp; done) | omega | (simp; omega)) _ | refine bl_then ?_ (by assumption)))
                      have HY := Lib.hid hy
                      clear hy n0 n1 n2 o0 o8 o8'
                      go_wp2
                      go_roundw
                      case rel => exact ⟨j + 1, left, out, HJ.out, by go_num, rfl, by omega, HN2, Lib.hid (HO.out.ext HY.out), by omega, Ext.trans hx HY.out⟩
                      case measure => have := HJ.out; simp [intOf]; omega
                    · obtain ⟨sl, rfl⟩ : ∃ q : Nat, nsl = q := ⟨nsl.toNat, by omega⟩
                      have hsln : sl < o.n := by omega
                      obtain ⟨bs, os_, hzs, hAs, _, hcs⟩ := (HOS.out.below hx).at_ slt_len hsln
                      have e2 : wr.cell? ⟨bs, os_ + sl * 3 + 2, none⟩ = some (.int .i64 (ttAt o.l sl)) := by rw [ttAt_eq hzs]; exact hcs 2 (by omega)
                      have htt : ¬ ttAt o.l sl ≤ now := fun h => HOK2.out ⟨rfl, by omega, by have := HOL.out; omega, by rw [show ((sl : Int)).toNat = sl by omega]; exact h⟩
                      generalize ttAt o.l sl = tt at htt e2
                      rw [hAs] at o8 o8'
                      have hn1 : ¬ (sl : Int) < 0 := by omega
                      have hn2 : ¬ (o.n : Int) ≤ (sl : Int) := by omega
                      have hn3 : (sl : Int) < (o.n : Int) := by omega
                      have hn4 : decide ((o.n : Int) ≤ (sl : Int)) = false := by simpa using hsln
                      clear hcs hs0 hs1
                      go_quiet (fail)
                      have hy : Ext wr (wr.drewN nq) := (by repeat (first | exact Below.refl _ _ | assumption | refine Below.drew ?_ | refine below_drewN ?_ _ | refine bl_alloc ?_ _ | refine Below.setCell ?_ (by first | (simp; done) | omega | (simp; omega)) _ | refine bl_then ?_ (by assumption)))
                      have n0 := ext_cell hy n0
                      have n1 := ext_cell hy n1
                      have o8 := ext_cell hy o8
                      have o8' := ext_cell hy o8'
                      have e2 := ext_cell hy e2
                      generalize wr.drewN nq = W5 at hy n0 n1 o8 o8' e2 ⊢
                      go_upto_region 12 with (fail)
                      go_quiet (fail)
                      have hy2 : Ext W5 (W5.drewN nq) := (by repeat (first | exact Below.refl _ _ | assumption | refine Below.drew ?_ | refine below_drewN ?_ _ | refine bl_alloc ?_ _ | refine Below.setCell ?_ (by first | (simp; done) | omega | (simp; omega)) _ | refine bl_then ?_ (by assumption)))
                      have HY := Lib.hid (Ext.trans hy hy2)
                      clear hy hy2 n0 n1 n2 o0 o8 o8' e2
                      go_wp2
                      go_roundw
                      case rel => exact ⟨j + 1, left, out, HJ.out, by go_num, rfl, hl6, HN2, Lib.hid (HO.out.ext HY.out), by omega, Ext.trans hx HY.out⟩
                      case measure => have := HJ.out; simp [intOf]; omega
              · have him1 : (nim == o.id) = false := by simpa using hm1
                have him2 : (nim != o.id) = true := by simpa using hm1
                go_quiet (fail)
                have hy : Ext wr (wr.drewN nq) := (by repeat (first | exact Below.refl _ _ | assumption | refine Below.drew ?_ | refine below_drewN ?_ _ | refine bl_alloc ?_ _ | refine Below.setCell ?_ (by first | (simp; done) | omega | (simp; omega)) _ | refine bl_then ?_ (by assumption)))
                have HY := Lib.hid hy
                clear hy n0 n1 n2 o0 o8 o8'
                go_wp2
                go_roundw
                case rel => exact ⟨j + 1, left, out, HJ.out, by go_num, rfl, by omega, HN2, Lib.hid (HO.out.ext HY.out), by omega, Ext.trans hx HY.out⟩
                case measure => have := HJ.out; simp [intOf]; omega
          · have hFF : FI = out := by rw [HF.out, List.drop_of_length_le (by rw [HN.out.len]; omega)]; simp
            have HN2 : Hid (fin = out ++ hearG how now ns (k + 1) ((os.map Opt.p).drop (k + 1))) := Lib.hid (by rw [HST.out, hFF])
            clear hFF HF HST
            go_wp2
            go_roundw
            case rel => exact ⟨k + 1, out, HKN.out, by go_num, HN2, HO, by omega, hx⟩
            case measure => have := HKN.out; simp [intOf]; omega
    · have hff : fin = out0 := by rw [HF.out, List.drop_of_length_le (by rw [List.length_map, HOP.out.out.len]; omega), hearG, List.append_nil]
      have HFF := Lib.hid hff
      clear hff HF
      go_wp2
      go_ret
      exact ⟨_, rfl, by rw [HFF.out]; exact HO.out, hx⟩
end Go.Proofs.Ytmlabgmigakcbaa
namespace Go.Proofs.Ytmlabgmigakcbaa
open Go.RowKit

theorem flat_drop {α : Type} {cells : α → List Value} {s : Nat} (hs : ∀ x, (cells x).length = s) (l : List α) (k : Nat) : (l.drop k).flatMap cells = (l.flatMap cells).drop (k * s) := by
  induction l generalizing k with
  | nil => simp
  | cons x r ih =>
    cases k with
    | zero => simp
    | succ k =>
      rw [List.drop_succ_cons, List.flatMap_cons, ih, List.drop_append, hs, Nat.succ_mul, List.drop_of_length_le (l := cells x) (i := k * s + s) (by rw [hs]; omega), List.nil_append, Nat.add_sub_cancel]
theorem RA.tail {α : Type} {cells : α → List Value} {s : Nat} (hs : ∀ x, (cells x).length = s) {w : World} {B n c : Nat} {A : Option Addr} {l : List α} (h : RA cells s w B A n c l) (k : Nat) (hk : k ≤ n) : RA cells s w B (if c = k then A else A.map (·.add (k * s))) (n - k) (c - k) (l.drop k) := by
  have hc := h.cap
  have hm := h.capM
  have hl := h.le
  refine ⟨?_, by rw [List.length_drop, h.len], by omega, by omega, by omega⟩
  rw [flat_drop hs]
  exact h.rd.cut hk h.cap
theorem run_append_none {P : Program} (w : World) (t ty e : TypeId) (i : TypeInfo) (ht : P.underlying t = some (.slice e)) (hi : P.info? e = some i) (b : Addr) (n c : Nat) (hn : n ≤ c) (A : Option Addr) (c' : Nat) :
    (Builtin.append_ #[t, t] ty #[.slice (some b) n c, .slice A 0 c']).run P w = .ok (.slice (some b) n c) w := by
  cases A <;> simp [Builtin.append_, run_underlying ht, sizeOf, typeInfo, hi, Builtin.lenOf, Builtin.firstCells, hn, storeCells, loadCells, loadCellsFrom]
theorem run_append_none2 {P : Program} (w : World) (t ty e : TypeId) (i : TypeInfo) (ht : P.underlying t = some (.slice e)) (hi : P.info? e = some i) (A : Option Addr) (c' : Nat) :
    (Builtin.append_ #[t, t] ty #[.slice none 0 0, .slice A 0 c']).run P w = .ok (.slice none 0 0) w := by
  cases A <;> simp [Builtin.append_, run_underlying ht, sizeOf, typeInfo, hi, Builtin.lenOf, Builtin.firstCells, loadCells, loadCellsFrom]
theorem rcp_ones (l : List Rcp) : ∀ u ∈ l.flatMap rcpCells, u.oneCell' = true := by
  intro u hu
  obtain ⟨x, _, hx⟩ := List.mem_flatMap.1 hu
  simp [rcpCells] at hx
  rcases hx with rfl | rfl | rfl <;> rfl
/-- Receipts are copied behind an empty list. -/
theorem copy_rcp {w : World} (ty : TypeId) (xs : List Rcp) (b gx n c : Nat) (A : Option Addr) (B0 : Nat) (jx : Blk w gx 63 #[]) (hg : B0 ≤ gx) (hn : n ≤ 900) (hx : RA rcpCells 3 w b A n c xs) :
    ∃ v' w', (Builtin.append_ #[33, 33] ty #[.slice (some ⟨gx, 0, none⟩) 0 0, .slice A n c]).run Try.prog w = .ok v' w' ∧ Ext w w' ∧ OwnRc w' B0 v' xs := by
  obtain ⟨i0, hi0, hz0, hz1, hz2⟩ := info_parts info_rcp
  have hl := hx.len
  have hlt := jx.lt
  rcases Nat.eq_zero_or_pos n with h0 | h0
  · subst h0
    obtain rfl : xs = [] := List.eq_nil_of_length_eq_zero hl
    exact ⟨_, _, run_append_none w _ _ _ i0 Try.underlying33 hi0 ⟨gx, 0, none⟩ 0 0 (Nat.le_refl _) A c, Ext.refl _, rfl, .inr ⟨gx, 0, #[], rfl, hg, jx, Nat.le_refl _, by unfold maxLen; omega, rfl, rfl⟩⟩
  · obtain ⟨b', o, rfl, hb, hc⟩ := hx.rd.2 h0
    obtain ⟨v', w', h1, h2, h3⟩ := run_append_arg_grows (P := Try.prog) (w := w) 33 ty 63 i0 _ 3 24 Try.underlying33 hi0 hz0 hz1 hz2 rfl (by omega) ⟨gx, 0, none⟩ 0 0 [] rfl (fun j u hu => by simp at hu) ⟨b', o, none⟩ n c _ hx.rd.1 (fun j u hu => by rw [Addr.add_lit]; exact hc j u hu) (by omega) (by unfold maxLen; omega) (by omega)
    refine ⟨v', w', h1, ⟨h3.os, h3.tape, h3.output, h3.size, fun k hk => h3.block k hk (by simp)⟩, ?_⟩
    unfold OwnRc
    rw [hl]
    rw [Nat.zero_add, List.nil_append] at h2
    exact own_base h2 (by omega)
/-- Receipts behind receipts of one's own. -/
theorem join_rcp {w : World} (ty : TypeId) (xs ys : List Rcp) (v : Value) (base b m c : Nat) (A : Option Addr) (h : OwnRc w base v xs) (hy : RA rcpCells 3 w b A m c ys) (hn : xs.length + m ≤ 900) (hb : base ≤ w.heap.size) :
    ∃ v' w', (Builtin.append_ #[33, 33] ty #[v, .slice A m c]).run Try.prog w = .ok v' w' ∧ w.grownBy w' v.ownBlock ∧ OwnRc w' base v' (xs ++ ys) := by
  obtain ⟨i0, hi0, hz0, hz1, hz2⟩ := info_parts info_rcp
  have hl := hy.len
  have hcap := hy.cap
  rcases Nat.eq_zero_or_pos m with h0 | h0
  · subst h0
    obtain rfl : ys = [] := List.eq_nil_of_length_eq_zero hl
    rw [List.append_nil]
    rcases h.2 with ⟨rfl, hz⟩ | ⟨g, cap, cur, rfl, hbb, hg, r1, r2, r3, r4⟩
    · exact ⟨_, _, run_append_none2 w _ _ _ i0 Try.underlying33 hi0 A c, ⟨rfl, rfl, rfl, Nat.le_refl _, fun _ _ _ => rfl⟩, h⟩
    · exact ⟨_, _, run_append_none w _ _ _ i0 Try.underlying33 hi0 ⟨g, 0, none⟩ xs.length cap r1 A c, ⟨rfl, rfl, rfl, Nat.le_refl _, fun _ _ _ => rfl⟩, h⟩
  · obtain ⟨b', o, rfl, hb', hc⟩ := hy.rd.2 h0
    obtain ⟨v2, W7, hr, hrow2, hg2, -⟩ := run_append_own (P := Try.prog) w base 33 ty 63 i0 _ 3 24 Try.underlying33 hi0 hz0 hz1 hz2 rfl (by omega) _ _ _ h ⟨b', o, none⟩ m c _ hy.rd.1 (fun j u hu => by rw [Addr.add_lit]; exact hc j u hu) (rcp_ones ys) (by unfold maxLen; omega) (by omega) hb
    refine ⟨v2, W7, hr, hg2, ?_⟩
    unfold OwnRc
    rw [List.length_append, List.flatMap_append, hl]
    exact hrow2
/-- A row of one's own is nil and empty, or has a block. -/
theorem own_nil_or {w : World} {base n : Nat} {e : TypeId} {s : Nat} {A : Option Addr} {m c : Nat} {xs : List Value} (h : w.ownsRow base e s (.slice A m c) n xs) : (A = none ∧ m = 0 ∧ c = 0 ∧ n = 0) ∨ ∃ g, A = some ⟨g, 0, none⟩ ∧ base ≤ g := by
  rcases h.2 with ⟨hv, hz⟩ | ⟨g, cap, cur, hv, hbb, _⟩
  · injection hv with e1 e2 e3
    exact .inl ⟨e1, e2, e3, hz⟩
  · injection hv with e1 e2 e3
    exact .inr ⟨g, e1, hbb⟩
end Go.Proofs.Ytmlabgmigakcbaa
namespace Go.Proofs.Ytmlabgmigakcbaa
open Go.RowKit

def trueO (lost : List Int) (now : Int) (r : Rcp) (o : Opp) : Bool := decide (o.id = r.im ∧ 0 ≤ sentI lost 0 o.l ∧ ttAt o.l (sentI lost 0 o.l).toNat ≤ now)
def oneL (lost : List Int) (now : Int) (r : Rcp) (os : List Opp) : List Rcp := (os.filter (trueO lost now r)).map (fun _ => r)
theorem oneL_cons (lost : List Int) (now : Int) (r : Rcp) (o : Opp) (os : List Opp) : oneL lost now r (o :: os) = (if trueO lost now r o then [r] else []) ++ oneL lost now r os := by
  unfold oneL
  rw [List.filter_cons]
  cases trueO lost now r o <;> rfl
def outL (os : List Opp) (lost : List Int) (now : Int) (rs : List Rcp) : List Rcp := rs.flatMap (fun r => oneL lost now r os)
theorem outL_cons (os : List Opp) (lost : List Int) (now : Int) (r : Rcp) (rs : List Rcp) : outL os lost now (r :: rs) = oneL lost now r os ++ outL os lost now rs := by unfold outL; rw [List.flatMap_cons]
def rotP (turn : Int) (l : List Rcp) : List Rcp := l.drop (pickI turn (l.length + 1)).toNat ++ l.take (pickI turn (l.length + 1)).toNat
def turnedP (os : List Opp) (lost : List Int) (rs : List Rcp) (now turn : Int) : List Rcp := rotP turn (outL os lost now rs)


set_option maxRecDepth 100000 in
set_option maxHeartbeats 16000000 in
theorem turned_any (os : List Opt) (ps : List Pas) (lost : List Int) (rs : List Rcp) (now turn : Int) (OA PA LA RA_ : Option Addr) (on oc pn pc ln lc rn rc : Nat) (w : World) (ho : Ops w w.heap.size OA on oc os) (hp : RA pasCells 6 w w.heap.size PA pn pc ps) (hl : RA intCells 1 w w.heap.size LA ln lc lost) (hr : RA rcpCells 3 w w.heap.size RA_ rn rc rs) (hS : ∀ o ∈ os, sentOK o ps lost = true) (hon : on ≤ 8) (hrn : rn ≤ 60) (htn : I64ok turn) :
    Calls Try.prog 30 #[.slice OA on oc, .slice PA pn pc, .slice LA ln lc, .slice RA_ rn rc, .int .i64 now, .int .i64 turn] w fun e w' => ∃ v, e = .returned v ∧ OwnRc w' w.heap.size v (turnedP (os.map Opt.p) lost rs now turn) ∧ Ext w w' := by
  have HSE := Lib.hid (fun (o : Opt) (hm : o ∈ os) (W : World) (hW : Ext w W) => sent_any o ps lost PA LA pn pc ln lc W (ra_ext (ho.each o hm) hW) (ra_ext hp hW) (ra_ext hl hW))
  have HOP := Lib.hid ho
  have HR := Lib.hid hr
  have HSS := Lib.hid hS
  obtain ⟨fin, hfin⟩ : ∃ x, x = outL (os.map Opt.p) lost now rs := ⟨_, rfl⟩
  have hgoal : turnedP (os.map Opt.p) lost rs now turn = rotP turn fin := by rw [hfin]; rfl
  rw [hgoal]
  clear hgoal
  have HF0 : Hid (fin = [] ++ outL (os.map Opt.p) lost now (rs.drop 0)) := Lib.hid hfin
  clear hfin ho hp hl hr hS
  go_enter Try.func30, Try.ntmps30
  go_wp2
  go_loopw [13, 14] (fun x y wr => ∃ (i : Nat) (out : List Rcp), i ≤ rn ∧ y = .int .i64 i ∧ Hid (fin = out ++ outL (os.map Opt.p) lost now (rs.drop i)) ∧ Hid (OwnRc wr w.heap.size x out) ∧ out.length ≤ 8 * i ∧ Ext w wr) (fun _ y _ => rn - (intOf y).toNat)
  case atStart => exact ⟨0, [], Nat.zero_le _, rfl, HF0, Lib.hid (World.ownsRow_nil _ _ _ _), Nat.zero_le _, Ext.refl _⟩
  case round =>
    clear HF0
    obtain ⟨i, out0, hi, rfl, HF, HO, hol, hx⟩ := hrel
    obtain ⟨A3, c3, hv3, _, _⟩ := own_slice HO.out
    subst hv3
    by_cases hin : i < rn
    · have hzi : i < rs.length := by rw [HR.out.len]; exact hin
      have hst := HF.out
      rw [List.drop_eq_getElem_cons hzi, outL_cons] at hst
      obtain ⟨r, hre⟩ : ∃ r, r = rs[i] := ⟨_, rfl⟩
      rw [← hre] at hst
      have HRE : Hid (∀ h : i < rs.length, rs[i] = r) := Lib.hid (fun _ => hre.symm)
      clear hre
      obtain ⟨FI, hFI⟩ : ∃ F, F = out0 ++ oneL lost now r (os.map Opt.p) := ⟨_, rfl⟩
      have HST : Hid (fin = FI ++ outL (os.map Opt.p) lost now (rs.drop (i + 1))) := Lib.hid (by rw [hst, hFI]; simp)
      have HFI : Hid (FI = out0 ++ oneL lost now r ((os.map Opt.p).drop 0)) := Lib.hid hFI
      have HIN := Lib.hid hin
      clear hst hFI HF
      obtain ⟨rsn, rim, rat⟩ := r
      go_wp2_with fail
      go_loopw [13, 15] (fun x y wi => ∃ (k : Nat) (out : List Rcp), k ≤ on ∧ y = .int .i64 k ∧ Hid (FI = out ++ oneL lost now ⟨rsn, rim, rat⟩ ((os.map Opt.p).drop k)) ∧ Hid (OwnRc wi w.heap.size x out) ∧ out.length ≤ 8 * i + k ∧ Ext w wi) (fun _ y _ => on - (intOf y).toNat)
      case atStart => exact ⟨0, out0, Nat.zero_le _, rfl, HFI, HO, by omega, hx⟩
      case round =>
        clear HFI HO hx hol
        obtain ⟨k, out, hk, rfl, HF, HO, hol, hx⟩ := hrel
        obtain ⟨A3, c3, hv3, _, _⟩ := own_slice HO.out
        subst hv3
        by_cases hkn : k < on
        · obtain ⟨b, ob, hz, hA, _, hc⟩ := (HOP.out.out.below hx).at_ opt_len hkn
          have hst := HF.out
          rw [List.drop_eq_getElem_cons (by rw [List.length_map]; exact hz), oneL_cons, List.getElem_map] at hst
          have hmem := List.getElem_mem hz
          have hse := HSE.out _ hmem wr hx
          have hss := HSS.out _ hmem
          have hsr := HOP.out.each _ hmem
          have hcas := sentI_bd lost (os[k]).l 0
          generalize os[k] = o at hst hc hse hss hsr hcas
          have hsv : sentV o ps lost = (sentI lost 0 o.l, 0) := by unfold sentV; rw [if_pos hss]
          rw [hsv] at hse
          have htr : trueO lost now ⟨rsn, rim, rat⟩ o.p = decide (o.id = rim ∧ 0 ≤ sentI lost 0 o.l ∧ ttAt o.l (sentI lost 0 o.l).toNat ≤ now) := rfl
          rw [htr] at hst
          clear htr hsv hss hmem
          generalize sentI lost 0 o.l = z at hst hse hcas
          obtain ⟨id, i1, i2, i3, i4, i5, i6, i7, a, m, d, l⟩ := o
          dsimp only at hst hse hsr hcas
          have hml := hsr.len
          have c0 : wr.cell? ⟨b, ob + k * 9, none⟩ = some (.int .i64 id) := hc 0 (by omega)
          have c1_ : wr.cell? ⟨b, ob + k * 9 + 1, none⟩ = some (.int .i64 i1) := hc 1 (by omega)
          have c2_ : wr.cell? ⟨b, ob + k * 9 + 2, none⟩ = some (.int .i64 i2) := hc 2 (by omega)
          have c3_ : wr.cell? ⟨b, ob + k * 9 + 3, none⟩ = some (.int .i64 i3) := hc 3 (by omega)
          have c4 : wr.cell? ⟨b, ob + k * 9 + 4, none⟩ = some (.int .i64 i4) := hc 4 (by omega)
          have c5 : wr.cell? ⟨b, ob + k * 9 + 5, none⟩ = some (.int .i64 i5) := hc 5 (by omega)
          have c6 : wr.cell? ⟨b, ob + k * 9 + 6, none⟩ = some (.int .i64 i6) := hc 6 (by omega)
          have c7 : wr.cell? ⟨b, ob + k * 9 + 7, none⟩ = some (.int .i64 i7) := hc 7 (by omega)
          have c8 : wr.cell? ⟨b, ob + k * 9 + 8, none⟩ = some (.slice a m d) := hc 8 (by omega)
          have c8' : wr.cell? ⟨b, ob + k * 9 + (7 + 1), none⟩ = some (.slice a m d) := c8
          have HST2 := Lib.hid hst
          have HSE2 := Lib.hid hse
          have HSR := Lib.hid hsr
          have HKN := Lib.hid hkn
          subst hA
          have hkz : (k : Int) < (on : Int) := by omega
          clear hc hz hst hse hsr HF
          go_wp2_with fail
          refine HSE2.out.mono ?_
          rintro e W3 ⟨rfl, hy⟩
          have hx3 := Ext.trans hx hy
          have c0 := ext_cell hy c0
          have c8 := ext_cell hy c8
          have c8' := ext_cell hy c8'
          have HO3 := Lib.hid (HO.out.ext hy)
          clear c1_ c2_ c3_ c4 c5 c6 c7 HSE2
          obtain ⟨br, orr, hzr, hAr, _, hcr⟩ := (HR.out.below hx3).at_ rcp_len HIN.out
          rw [HRE.out hzr] at hcr
          have e0 : W3.cell? ⟨br, orr + i * 3, none⟩ = some (.int .i64 rsn) := hcr 0 (by omega)
          have e1 : W3.cell? ⟨br, orr + i * 3 + 1, none⟩ = some (.int .i64 rim) := hcr 1 (by omega)
          have e2 : W3.cell? ⟨br, orr + i * 3 + 2, none⟩ = some (.int .i64 rat) := hcr 2 (by omega)
          subst hAr
          have hiz : (i : Int) < (rn : Int) := by have := HIN.out; omega
          clear hcr hy hx
          go_upto_region 9 with (fail)
          rcases hcas with hcas | hcas
          · subst hcas
            have HN2 : Hid (FI = out ++ oneL lost now ⟨rsn, rim, rat⟩ ((os.map Opt.p).drop (k + 1))) := Lib.hid (by have h := HST2.out; rw [if_neg (by simp)] at h; exact h)
            clear HST2 c8' e0 e2
            go_quiet (fail)
            have hy : Ext W3 (W3.drewN nq) := (by repeat (first | exact Below.refl _ _ | assumption | refine Below.drew ?_ | refine below_drewN ?_ _ | refine bl_alloc ?_ _ | refine Below.setCell ?_ (by first | (simp; done) | omega | (simp; omega)) _ | refine bl_then ?_ (by assumption)))
            have HY := Lib.hid hy
            clear hy c0 c8 e1
            go_wp2
            go_roundw
            case rel => exact ⟨k + 1, out, HKN.out, by go_num, HN2, Lib.hid (HO3.out.ext HY.out), by omega, Ext.trans hx3 HY.out⟩
            case measure => have := HKN.out; simp [intOf]; omega
          · obtain ⟨zn, rfl⟩ : ∃ q : Nat, z = q := ⟨z.toNat, by omega⟩
            have hzm : zn < m := by omega
            have hn1 : ¬ (zn : Int) < 0 := by omega
            have hn2 : ¬ (m : Int) ≤ (zn : Int) := by omega
            have hn3 : (zn : Int) < (m : Int) := by omega
            have hn4 : decide ((m : Int) ≤ (zn : Int)) = false := by simpa using hzm
            clear hcas
            by_cases him : id = rim
            · subst him
              have him1 : (id == id) = true := by simp
              have him2 : (id != id) = false := by simp
              obtain ⟨bs, os_, hzs, hAs, _, hcs⟩ := (HSR.out.below hx3).at_ slt_len hzm
              have s2 : W3.cell? ⟨bs, os_ + zn * 3 + 2, none⟩ = some (.int .i64 (ttAt l zn)) := by rw [ttAt_eq hzs]; exact hcs 2 (by omega)
              have hst := HST2.out
              rw [show ((zn : Int)).toNat = zn by omega] at hst
              rw [hAs] at c8 c8'
              generalize ttAt l zn = tt at hst s2
              have HST3 := Lib.hid hst
              clear hcs hst HST2
              go_quiet (fail)
              have hy : Ext W3 (W3.drewN nq) := (by repeat (first | exact Below.refl _ _ | assumption | refine Below.drew ?_ | refine below_drewN ?_ _ | refine bl_alloc ?_ _ | refine Below.setCell ?_ (by first | (simp; done) | omega | (simp; omega)) _ | refine bl_then ?_ (by assumption)))
              have c0 := ext_cell hy c0
              have c8 := ext_cell hy c8
              have c8' := ext_cell hy c8'
              have s2 := ext_cell hy s2
              have e0 := ext_cell hy e0
              have e1 := ext_cell hy e1
              have e2 := ext_cell hy e2
              have hx5 := Ext.trans hx3 hy
              have HO5 := Lib.hid (HO3.out.ext hy)
              generalize W3.drewN nq = W5 at hy c0 c8 c8' s2 e0 e1 e2 hx5 HO5 ⊢
              clear hy
              by_cases htt : tt ≤ now
              · have HN2 : Hid (FI = (out ++ [(⟨rsn, id, rat⟩ : Rcp)]) ++ oneL lost now ⟨rsn, id, rat⟩ ((os.map Opt.p).drop (k + 1))) := Lib.hid (by have h := HST3.out; rw [if_pos (by simpa using htt)] at h; rw [h]; simp)
                have hxa : Ext W5 (W5.alloc (.cells #[.int .i64 rsn, .int .i64 id, .int .i64 rat] 63)) := bl_alloc (Below.refl _ _) _
                have hxw := Ext.trans hx5 hxa
                obtain ⟨v7, W7, hrun, hg7, ho7⟩ := rcp_snoc 33 out (.slice A3 out.length c3) ⟨rsn, id, rat⟩ w.heap.size W5.heap.size (Blk.new _ _ _) (HO5.out.ext hxa) (by omega) (Below.size hxw)
                have HX7 : Hid (Ext w W7) := Lib.hid (hxw.grown hg7 (Below.size hxw) (fun q e => (World.ownsRow.lt HO5.out q e).1))
                have HO7 := Lib.hid ho7
                have HRUN := Lib.hid hrun
                clear hrun hg7 ho7 hxa hxw HST3
                go_upto_region 11 with (fail)
                go_wp2_with (refine wpList_append_run_ rfl _ _ _ rfl rfl rfl HRUN.out ?_)
                go_roundw
                case rel => exact ⟨k + 1, _, HKN.out, by go_num, HN2, HO7, by simp; omega, HX7.out⟩
                case measure => have := HKN.out; simp [intOf]; omega
              · have HN2 : Hid (FI = out ++ oneL lost now ⟨rsn, id, rat⟩ ((os.map Opt.p).drop (k + 1))) := Lib.hid (by have h := HST3.out; rw [if_neg (by simpa using htt)] at h; exact h)
                clear HST3 e0 e1 e2 c0
                go_wp2
                go_roundw
                case rel => exact ⟨k + 1, out, HKN.out, by go_num, HN2, HO5, by omega, hx5⟩
                case measure => have := HKN.out; simp [intOf]; omega
            · have him1 : (id == rim) = false := by simpa using him
              have him2 : (id != rim) = true := by simpa using him
              have HN2 : Hid (FI = out ++ oneL lost now ⟨rsn, rim, rat⟩ ((os.map Opt.p).drop (k + 1))) := Lib.hid (by have h := HST2.out; rw [if_neg (by simp [him])] at h; exact h)
              clear HST2 e0 e2
              go_quiet (fail)
              have hy : Ext W3 (W3.drewN nq) := (by repeat (first | exact Below.refl _ _ | assumption | refine Below.drew ?_ | refine below_drewN ?_ _ | refine bl_alloc ?_ _ | refine Below.setCell ?_ (by first | (simp; done) | omega | (simp; omega)) _ | refine bl_then ?_ (by assumption)))
              have HY := Lib.hid hy
              clear hy c0 c8 e1
              go_wp2
              go_roundw
              case rel => exact ⟨k + 1, out, HKN.out, by go_num, HN2, Lib.hid (HO3.out.ext HY.out), by omega, Ext.trans hx3 HY.out⟩
              case measure => have := HKN.out; simp [intOf]; omega
        · have hFF : FI = out := by rw [HF.out, List.drop_of_length_le (by rw [List.length_map, HOP.out.out.len]; omega)]; simp [oneL]
          have HN2 : Hid (fin = out ++ outL (os.map Opt.p) lost now (rs.drop (i + 1))) := Lib.hid (by rw [HST.out, hFF])
          clear hFF HF HST
          go_wp2
          go_roundw
          case rel => exact ⟨i + 1, out, HIN.out, by go_num, HN2, HO, by omega, hx⟩
          case measure => have := HIN.out; simp [intOf]; omega
    · have hff : fin = out0 := by rw [HF.out, List.drop_of_length_le (by rw [HR.out.len]; omega)]; simp [outL]
      have HRO : Hid (RA rcpCells 3 wr wr.heap.size A3 out0.length c3 out0) := Lib.hid (RA.of_own HO.out rfl (by omega))
      have hon2 := own_nil_or HO.out
      have hcap := HRO.out.cap
      obtain ⟨out, hout⟩ : ∃ o, o = out0 := ⟨_, rfl⟩
      rw [← hout] at HRO hol hon2 hcap hff
      have hpb := pickI_bd turn (out.length + 1) (by omega)
      have PK := fun W => pickl_any turn (out.length + 1) W htn.1 htn.2 (by omega) (by omega)
      have hff2 : rotP turn fin = out.drop (pickI turn (out.length + 1)).toNat ++ out.take (pickI turn (out.length + 1)).toNat := by rw [hff]; rfl
      generalize pickI turn (out.length + 1) = pz at hpb PK hff2
      obtain ⟨pv, rfl⟩ : ∃ q : Nat, pz = q := ⟨pz.toNat, by omega⟩
      rw [show ((pv : Int)).toNat = pv by omega] at hff2
      have HFF := Lib.hid hff2
      have HPK := Lib.hid PK
      rw [← hout]
      have hpv : pv ≤ out.length := by omega
      have hpz : (pv : Int) ≤ (out.length : Int) := by omega
      have hcz : (out.length : Int) ≤ (c3 : Int) := by omega
      clear hff HF hff2 PK hpb hout HO
      go_wp2_with fail
      refine (HPK.out _).mono ?_
      rintro e w2 ⟨rfl, rfl⟩
      clear HPK
      go_upto_region 13 with (fail)
      rcases hon2 with ⟨rfl, h0, rfl, _⟩ | ⟨g, rfl, hgb⟩
      · obtain rfl : out = [] := List.eq_nil_of_length_eq_zero h0
        obtain rfl : pv = 0 := by omega
        rw [List.length_nil]
        refine wp_region_obl 8 (fun ix vals v w1 => match ix with | 0 => ∃ g, v = .slice (some ⟨g, 0, none⟩) 0 0 ∧ wr.heap.size ≤ g ∧ Blk w1 g 63 #[] | 1 => v = .slice none 0 0 | 2 => v = .int .i64 ((0 : Nat) : Int) | 3 => v = .slice none 0 0 | 4 => OwnRc w1 wr.heap.size v [] | 5 => v = .slice none 0 0 | 6 => v = .int .i64 ((0 : Nat) : Int) | _ => v = .slice none 0 0) (by kernel_rfl) (by kernel_rfl) ?_ ?_ ?_ ?_
        · intro ix vals v w1 w2 hi hr hx
          match ix, hr with
          | 0, hr => obtain ⟨g, h1, h2, h3⟩ := hr; exact ⟨g, h1, h2, h3.ext hx⟩
          | 1, hr => exact hr
          | 2, hr => exact hr
          | 3, hr => exact hr
          | 4, hr => exact OwnRc.ext hr hx
          | 5, hr => exact hr
          | 6, hr => exact hr
          | (kx + 7), hr => exact hr
        · intro ix vals vals_ v w1 hi hv hr
          exact hr
        · refine ⟨?_, ?_, ?_, ?_, ?_, ?_, ?_, ?_, trivial⟩
          · intro vals w1 hx hd ha
            clear hd ha
            simp only [Lf]
            have hz9 := Below.size hx.undrew
            go_wp2
            exact ⟨rfl, (by repeat (first | exact Below.refl _ _ | assumption | refine Below.drew ?_ | refine below_drewN ?_ _ | refine bl_alloc ?_ _ | refine Below.setCell ?_ (by first | (simp; done) | omega | (simp; omega)) _ | refine bl_then ?_ (by assumption))), _, rfl, by omega, Blk.new _ _ _⟩
          · intro vals w1 hx hd ha
            clear hd ha
            simp only [Lf, dstAt, Act.put, List.getElem?_toArray, List.getElem?_cons_zero, Option.bind_some, List.setIfInBounds_toArray, List.set_cons_zero, List.set_cons_succ]
            go_wp2
            exact ⟨rfl, Ext.refl _, rfl⟩
          · intro vals w1 hx hd ha
            clear hd ha
            simp only [Lf, dstAt, Act.put, List.getElem?_toArray, List.getElem?_cons_zero, List.getElem?_cons_succ, Option.bind_some, List.setIfInBounds_toArray, List.set_cons_zero, List.set_cons_succ]
            go_wp2
            exact ⟨rfl, Ext.refl _, rfl⟩
          · intro vals w1 hx hd ha
            have e1 : vals 1 = .slice none 0 0 := hd 1 (by decide)
            have e2 : vals 2 = .int .i64 ((0 : Nat) : Int) := hd 2 (by decide)
            clear hd ha
            simp only [Lf, dstAt, Act.put, List.getElem?_toArray, List.getElem?_cons_zero, List.getElem?_cons_succ, Option.bind_some, List.setIfInBounds_toArray, List.set_cons_zero, List.set_cons_succ]
            simp only [e1, e2]
            clear e1 e2
            go_wp2
            exact ⟨rfl, Ext.refl _, rfl⟩
          · intro vals w1 hx hd ha
            have r0 : (fun v w1 => ∃ g, v = .slice (some ⟨g, 0, none⟩) 0 0 ∧ wr.heap.size ≤ g ∧ Blk w1 g 63 #[]) (vals 0) w1 := hd 0 (by decide)
            dsimp only at r0
            have e3 : vals 3 = .slice none 0 0 := hd 3 (by decide)
            clear hd ha
            simp only [Lf, dstAt, Act.put, List.getElem?_toArray, List.getElem?_cons_zero, List.getElem?_cons_succ, Option.bind_some, List.setIfInBounds_toArray, List.set_cons_zero, List.set_cons_succ]
            obtain ⟨g0, e_0, hg0, j0⟩ := r0
            obtain ⟨v9, w9, hrun, hx9, ho9⟩ := copy_rcp 33 [] wr.heap.size g0 0 0 none wr.heap.size j0 hg0 (by omega) RA.nil_
            simp only [e3]
            clear e3
            rw [e_0]
            refine wpList_append_run_ rfl _ _ _ rfl rfl rfl hrun ?_
            clear hrun
            go_wp2
            exact ⟨rfl, hx9, ho9⟩
          · intro vals w1 hx hd ha
            clear hd ha
            simp only [Lf, dstAt, Act.put, List.getElem?_toArray, List.getElem?_cons_zero, List.getElem?_cons_succ, Option.bind_some, List.setIfInBounds_toArray, List.set_cons_zero, List.set_cons_succ]
            go_wp2
            exact ⟨rfl, Ext.refl _, rfl⟩
          · intro vals w1 hx hd ha
            clear hd ha
            simp only [Lf, dstAt, Act.put, List.getElem?_toArray, List.getElem?_cons_zero, List.getElem?_cons_succ, Option.bind_some, List.setIfInBounds_toArray, List.set_cons_zero, List.set_cons_succ]
            go_wp2
            exact ⟨rfl, Ext.refl _, rfl⟩
          · intro vals w1 hx hd ha
            have e5 : vals 5 = .slice none 0 0 := hd 5 (by decide)
            have e6 : vals 6 = .int .i64 ((0 : Nat) : Int) := hd 6 (by decide)
            clear hd ha
            simp only [Lf, dstAt, Act.put, List.getElem?_toArray, List.getElem?_cons_zero, List.getElem?_cons_succ, Option.bind_some, List.setIfInBounds_toArray, List.set_cons_zero, List.set_cons_succ]
            simp only [e5, e6]
            clear e5 e6
            go_wp2
            exact ⟨rfl, Ext.refl _, rfl⟩
        intro vals W6 hz hf
        have h4 : OwnRc W6 wr.heap.size (vals 4) [] := hf 4 (by omega)
        have e7 : vals 7 = .slice none 0 0 := hf 7 (by omega)
        have hz := hz.undrew
        clear hf
        obtain ⟨v7, W7, hrun, hg7, h7⟩ := join_rcp 33 [] [] (vals 4) wr.heap.size wr.heap.size 0 0 none h4 RA.nil_ (by simp) (Below.size hz)
        have hx7 : Ext wr W7 := hz.grown hg7 (Below.size hz) (fun q e => (World.ownsRow.lt h4 q e).1)
        have HX7 := Lib.hid (Ext.trans hx hx7)
        have H7 := Lib.hid (own_base h7 (Below.size hx))
        have HRUN := Lib.hid hrun
        clear hrun hg7 h7 h4 hz hx7
        refine tailF 8 _ _ 1 (by kernel_rfl) rfl ?_ (fun a w q => tail1 9 _ (by kernel_rfl) (by kernel_rfl) rfl q)
        simp only [Lf, dstAt, Act.put, List.getElem?_toArray, List.getElem?_cons_zero, List.getElem?_cons_succ, Option.bind_some, List.setIfInBounds_toArray, List.set_cons_zero, List.set_cons_succ]
        rw [e7]
        clear e7
        refine wpList_append_run_ rfl _ _ _ rfl rfl rfl HRUN.out ?_
        clear HRUN
        go_wp2
        go_ret
        exact ⟨_, rfl, by rw [HFF.out]; exact H7.out, HX7.out⟩
      · have hgb2 := hgb
        clear hgb
        refine wp_region_obl 8 (fun ix vals v w1 => match ix with | 0 => ∃ g, v = .slice (some ⟨g, 0, none⟩) 0 0 ∧ wr.heap.size ≤ g ∧ Blk w1 g 63 #[] | 1 => v = .slice (some ⟨g, 0, none⟩) out.length c3 | 2 => v = .int .i64 (pv : Int) | 3 => ∃ T, v = .slice T (out.length - pv) (c3 - pv) ∧ wr.heap.size ≤ w1.heap.size ∧ RA rcpCells 3 w1 wr.heap.size T (out.length - pv) (c3 - pv) (out.drop pv) | 4 => OwnRc w1 wr.heap.size v (out.drop pv) | 5 => v = .slice (some ⟨g, 0, none⟩) out.length c3 | 6 => v = .int .i64 (pv : Int) | _ => v = .slice (some ⟨g, 0, none⟩) pv c3) (by kernel_rfl) (by kernel_rfl) ?_ ?_ ?_ ?_
        · intro ix vals v w1 w2 hi hr hx
          match ix, hr with
          | 0, hr => obtain ⟨g, h1, h2, h3⟩ := hr; exact ⟨g, h1, h2, h3.ext hx⟩
          | 1, hr => exact hr
          | 2, hr => exact hr
          | 3, hr => obtain ⟨T, h1, h2, h3⟩ := hr; exact ⟨T, h1, Nat.le_trans h2 (Below.size hx), h3.below (hx.mono h2)⟩
          | 4, hr => exact OwnRc.ext hr hx
          | 5, hr => exact hr
          | 6, hr => exact hr
          | (kx + 7), hr => exact hr
        · intro ix vals vals_ v w1 hi hv hr
          exact hr
        · refine ⟨?_, ?_, ?_, ?_, ?_, ?_, ?_, ?_, trivial⟩
          · intro vals w1 hx hd ha
            clear hd ha
            simp only [Lf]
            have hz9 := Below.size hx.undrew
            go_wp2
            exact ⟨rfl, (by repeat (first | exact Below.refl _ _ | assumption | refine Below.drew ?_ | refine below_drewN ?_ _ | refine bl_alloc ?_ _ | refine Below.setCell ?_ (by first | (simp; done) | omega | (simp; omega)) _ | refine bl_then ?_ (by assumption))), _, rfl, by omega, Blk.new _ _ _⟩
          · intro vals w1 hx hd ha
            clear hd ha
            simp only [Lf, dstAt, Act.put, List.getElem?_toArray, List.getElem?_cons_zero, Option.bind_some, List.setIfInBounds_toArray, List.set_cons_zero, List.set_cons_succ]
            go_wp2
            exact ⟨rfl, Ext.refl _, rfl⟩
          · intro vals w1 hx hd ha
            clear hd ha
            simp only [Lf, dstAt, Act.put, List.getElem?_toArray, List.getElem?_cons_zero, List.getElem?_cons_succ, Option.bind_some, List.setIfInBounds_toArray, List.set_cons_zero, List.set_cons_succ]
            go_wp2
            exact ⟨rfl, Ext.refl _, rfl⟩
          · intro vals w1 hx hd ha
            have e1 : vals 1 = .slice (some ⟨g, 0, none⟩) out.length c3 := hd 1 (by decide)
            have e2 : vals 2 = .int .i64 (pv : Int) := hd 2 (by decide)
            clear hd ha
            simp only [Lf, dstAt, Act.put, List.getElem?_toArray, List.getElem?_cons_zero, List.getElem?_cons_succ, Option.bind_some, List.setIfInBounds_toArray, List.set_cons_zero, List.set_cons_succ]
            simp only [e1]
            simp only [e2]
            clear e1 e2
            have hz9 := Below.size hx.undrew
            have hta := (HRO.out.below (hx.undrew.mono (Nat.le_refl _))).tail rcp_len pv (by omega)
            by_cases hce : c3 = pv
            · have hce2 : c3 - pv = 0 := (by omega); rw [if_pos hce] at hta; go_wp2; exact ⟨rfl, Ext.refl _, _, (by rw [hce2]; rfl), hz9, hta⟩
            · rw [if_neg hce, show (Option.map (·.add (pv * 3)) (some (⟨g, 0, none⟩ : Addr))) = some ⟨g, pv * 3, none⟩ from (by simp [Addr.add]; omega)] at hta; go_wp2; exact ⟨rfl, Ext.refl _, _, rfl, hz9, hta⟩
          · intro vals w1 hx hd ha
            have r0 : (fun v w1 => ∃ g, v = .slice (some ⟨g, 0, none⟩) 0 0 ∧ wr.heap.size ≤ g ∧ Blk w1 g 63 #[]) (vals 0) w1 := hd 0 (by decide)
            dsimp only at r0
            have r3 : (fun v w1 => ∃ T, v = .slice T (out.length - pv) (c3 - pv) ∧ wr.heap.size ≤ w1.heap.size ∧ RA rcpCells 3 w1 wr.heap.size T (out.length - pv) (c3 - pv) (out.drop pv)) (vals 3) w1 := hd 3 (by decide)
            dsimp only at r3
            clear hd ha
            simp only [Lf, dstAt, Act.put, List.getElem?_toArray, List.getElem?_cons_zero, List.getElem?_cons_succ, Option.bind_some, List.setIfInBounds_toArray, List.set_cons_zero, List.set_cons_succ]
            obtain ⟨g0, e_0, hg0, j0⟩ := r0
            obtain ⟨T, e_3, hsz, hT⟩ := r3
            obtain ⟨v9, w9, hrun, hx9, ho9⟩ := copy_rcp 33 (out.drop pv) wr.heap.size g0 (out.length - pv) (c3 - pv) T wr.heap.size j0 hg0 (by omega) hT
            rw [e_0, e_3]
            refine wpList_append_run_ rfl _ _ _ rfl rfl rfl hrun ?_
            clear hrun
            go_wp2
            exact ⟨rfl, hx9, ho9⟩
          · intro vals w1 hx hd ha
            clear hd ha
            simp only [Lf, dstAt, Act.put, List.getElem?_toArray, List.getElem?_cons_zero, List.getElem?_cons_succ, Option.bind_some, List.setIfInBounds_toArray, List.set_cons_zero, List.set_cons_succ]
            go_wp2
            exact ⟨rfl, Ext.refl _, rfl⟩
          · intro vals w1 hx hd ha
            clear hd ha
            simp only [Lf, dstAt, Act.put, List.getElem?_toArray, List.getElem?_cons_zero, List.getElem?_cons_succ, Option.bind_some, List.setIfInBounds_toArray, List.set_cons_zero, List.set_cons_succ]
            go_wp2
            exact ⟨rfl, Ext.refl _, rfl⟩
          · intro vals w1 hx hd ha
            have e5 : vals 5 = .slice (some ⟨g, 0, none⟩) out.length c3 := hd 5 (by decide)
            have e6 : vals 6 = .int .i64 (pv : Int) := hd 6 (by decide)
            clear hd ha
            simp only [Lf, dstAt, Act.put, List.getElem?_toArray, List.getElem?_cons_zero, List.getElem?_cons_succ, Option.bind_some, List.setIfInBounds_toArray, List.set_cons_zero, List.set_cons_succ]
            simp only [e5, e6]
            clear e5 e6
            go_wp2
            exact ⟨rfl, Ext.refl _, rfl⟩
        intro vals W6 hz hf
        have h4 : OwnRc W6 wr.heap.size (vals 4) (out.drop pv) := hf 4 (by omega)
        have e7 : vals 7 = .slice (some ⟨g, 0, none⟩) pv c3 := hf 7 (by omega)
        have hz := hz.undrew
        clear hf
        have hT : RA rcpCells 3 W6 wr.heap.size (some ⟨g, 0, none⟩) pv c3 (out.take pv) := (HRO.out.cut rcp_len pv (by omega)).below (hz.mono (Nat.le_refl _))
        have hl1 : (out.drop pv).length + pv ≤ 900 := by rw [List.length_drop]; omega
        obtain ⟨v7, W7, hrun, hg7, h7⟩ := join_rcp 33 (out.drop pv) (out.take pv) (vals 4) wr.heap.size wr.heap.size pv c3 (some ⟨g, 0, none⟩) h4 hT hl1 (Below.size hz)
        have hx7 : Ext wr W7 := hz.grown hg7 (Below.size hz) (fun q e => (World.ownsRow.lt h4 q e).1)
        have HX7 := Lib.hid (Ext.trans hx hx7)
        have H7 := Lib.hid (own_base h7 (Below.size hx))
        have HRUN := Lib.hid hrun
        clear hrun hg7 h7 h4 hT hz hl1 hx7
        refine tailF 8 _ _ 1 (by kernel_rfl) rfl ?_ (fun a w q => tail1 9 _ (by kernel_rfl) (by kernel_rfl) rfl q)
        simp only [Lf, dstAt, Act.put, List.getElem?_toArray, List.getElem?_cons_zero, List.getElem?_cons_succ, Option.bind_some, List.setIfInBounds_toArray, List.set_cons_zero, List.set_cons_succ]
        rw [e7]
        clear e7
        refine wpList_append_run_ rfl _ _ _ rfl rfl rfl HRUN.out ?_
        clear HRUN
        go_wp2
        go_ret
        exact ⟨_, rfl, by rw [HFF.out]; exact H7.out, HX7.out⟩
end Go.Proofs.Ytmlabgmigakcbaa
namespace Go.Proofs.Ytmlabgmigakcbaa

/-- What is left of a set once so many notes are known. -/
def leftF (z : Int) (q : Nat) : Nat → Nat
  | 0 => q
  | k + 1 => nextP (decide ((k : Int) = z)) (leftF z q k) k
theorem leftF_succ (z : Int) (q k : Nat) : leftF z q (k + 1) = nextP (decide ((k : Int) = z)) (leftF z q k) k := rfl
theorem leftF_zero (z : Int) : ∀ k, leftF z 0 k = 0
  | 0 => rfl
  | k + 1 => by rw [leftF_succ, leftF_zero z k, nextP_zero]
theorem bit_pow (a j : Nat) : (2 ^ a).testBit j = decide (a = j) := by
  rw [Nat.testBit_two_pow]
theorem clr_tb {S i : Nat} (h : i < 6) (j : Nat) (hj : j < 6) : (clrB S i).testBit j = (S.testBit j && decide (j ≠ i)) := by
  unfold clrB
  rw [Nat.testBit_and]
  congr 1
  have h1 : i = 0 ∨ i = 1 ∨ i = 2 ∨ i = 3 ∨ i = 4 ∨ i = 5 := by omega
  have h2 : j = 0 ∨ j = 1 ∨ j = 2 ∨ j = 3 ∨ j = 4 ∨ j = 5 := by omega
  rcases h1 with rfl | rfl | rfl | rfl | rfl | rfl <;> rcases h2 with rfl | rfl | rfl | rfl | rfl | rfl <;> rfl
theorem next_lt (b : Bool) (S i : Nat) (h : S < 64) : nextP b S i < 64 := by
  cases b
  · exact and_lt _ _ h
  · exact and_lt _ _ h
theorem leftF_lt (z : Int) (q : Nat) (h : q < 64) : ∀ k, leftF z q k < 64
  | 0 => h
  | k + 1 => next_lt _ _ _ (leftF_lt z q h k)
/-- The bit of the slot that was confirmed stays. -/
theorem leftF_bit (z q : Nat) (hz : z < 6) (hq : q.testBit z = true) : ∀ k, k ≤ z + 1 → (leftF z q k).testBit z = true
  | 0, _ => hq
  | k + 1, h => by
    have ih := leftF_bit z q hz hq k (by omega)
    rw [leftF_succ]
    unfold nextP
    by_cases hk : (k : Int) = (z : Int)
    · rw [decide_eq_true hk, if_pos rfl, Nat.testBit_and, ih, bit_pow]
      simp; omega
    · rw [decide_eq_false hk, if_neg (by simp), clr_tb (by omega) z hz, ih]
      simp; omega
/-- Nothing is added. -/
theorem leftF_sub (z : Int) (q : Nat) : ∀ k, k ≤ 6 → ∀ j, j < 6 → (leftF z q k).testBit j = true → q.testBit j = true
  | 0, _ => fun j _ h => h
  | k + 1, hk => fun j hj h => by
    rw [leftF_succ] at h
    refine leftF_sub z q k (by omega) j hj ?_
    unfold nextP at h
    split at h
    · rw [Nat.testBit_and] at h; exact (Bool.and_eq_true _ _ ▸ h).1
    · rw [clr_tb (by omega) j hj] at h; exact (Bool.and_eq_true _ _ ▸ h).1
/-- All notes up to the slot: it alone is left. -/
theorem leftF_one (z q : Nat) (hz : z < 6) (hq : q.testBit z = true) : leftF z q (z + 1) = 2 ^ z := by
  have h := leftF_bit z q hz hq z (by omega)
  rw [leftF_succ]
  unfold nextP
  rw [decide_eq_true rfl, if_pos rfl]
  refine Nat.eq_of_testBit_eq fun j => ?_
  rw [Nat.testBit_and, bit_pow]
  by_cases hj : z = j
  · subst hj; rw [h]; simp
  · simp [hj]
theorem setL_pow (z : Nat) (hz : z < 6) : setL (2 ^ z) = [z] := by
  have h1 : z = 0 ∨ z = 1 ∨ z = 2 ∨ z = 3 ∨ z = 4 ∨ z = 5 := by omega
  rcases h1 with rfl | rfl | rfl | rfl | rfl | rfl <;> rfl
theorem mem_setL {S k : Nat} : k ∈ setL S ↔ k < 6 ∧ S.testBit k = true := by simp [setL]
/-- Receipts that all say the same, or nothing. -/
theorem recvP_true (q : Rcp → Nat) (id : Int) (Q : Nat) : ∀ (l : List Rcp) (i left : Nat) (ds : List Dsc), (∀ r ∈ l, q r = 0 ∨ q r = Q) → (left = 0 ∨ left = Q) → ((left = Q ∨ ∃ r ∈ l, q r = Q) → recvP q id i left ds l = (Q, ds)) ∧ (left = 0 → (∀ r ∈ l, q r = 0) → recvP q id i left ds l = (0, ds))
  | [], i, left, ds, _, hl => by
    rw [recvP]
    refine ⟨fun h => ?_, fun h _ => by rw [h]⟩
    rcases h with h | ⟨r, hr, _⟩
    · rw [h]
    · cases hr
  | r :: l, i, left, ds, hall, hl => by
    have hr := hall r List.mem_cons_self
    have ht : ∀ r ∈ l, q r = 0 ∨ q r = Q := fun x hx => hall x (List.mem_cons_of_mem _ hx)
    rw [recvP_cons]
    by_cases h0 : q r = 0
    · rw [if_pos h0]
      obtain ⟨a, b⟩ := recvP_true q id Q l (i + 1) left ds ht hl
      refine ⟨fun h => ?_, fun h hh => b h (fun x hx => hh x (List.mem_cons_of_mem _ hx))⟩
      rcases h with h | ⟨x, hx, hq⟩
      · exact a (.inl h)
      · rcases List.mem_cons.1 hx with rfl | hx
        · have : Q = 0 := by omega
          rcases hl with hl | hl
          · exact a (.inl (by omega))
          · exact a (.inl hl)
        · exact a (.inr ⟨x, hx, hq⟩)
    · have hrQ : q r = Q := by omega
      rw [if_neg h0]
      refine ⟨fun _ => ?_, fun _ hh => absurd (hh r List.mem_cons_self) h0⟩
      rcases hl with hl | hl
      · rw [if_pos hl, hrQ]
        exact (recvP_true q id Q l (i + 1) Q ds ht (.inr rfl)).1 (.inl rfl)
      · rw [if_neg (by omega), hrQ, hl, Nat.and_self, if_neg (by omega)]
        exact (recvP_true q id Q l (i + 1) Q ds ht (.inr rfl)).1 (.inl rfl)
theorem ntsTo_drop (id z : Int) (c k : Nat) (h : k < c) : (ntsTo id z c).drop k = ⟨id, k, decide ((k : Int) = z)⟩ :: (ntsTo id z c).drop (k + 1) := by
  have hl : k < (ntsTo id z c).length := by rw [ntsTo_len]; exact h
  rw [List.drop_eq_getElem_cons hl]
  congr 1
  simp [ntsTo]
/-- Notes that are true say nothing against the receipts. -/
theorem noteP_true (now : Int) (sl : List Slt) (id z : Int) (q cnt : Nat) (hc : cnt ≤ sl.length) (h6 : sl.length ≤ 6) (hz : 0 ≤ z → (cnt : Int) ≤ z + 1) (hz6 : z < 6) (ht : ∀ k, k < cnt → ttAt sl k ≤ now) (hq0 : q = 0 → ¬ (0 ≤ z ∧ z < cnt)) (hq1 : q ≠ 0 → 0 ≤ z ∧ q.testBit z.toNat = true) :
    ∀ (l : List Nte) (i slot : Nat) (done : Bool) (ds : List Dsc), l.filter (fun n => decide (n.im = id)) = (ntsTo id z cnt).drop slot → slot ≤ cnt → (done = true → slot = cnt) → noteP now sl id i (leftF z q slot) slot done ds l = (leftF z q cnt, ds)
  | [], i, slot, done, ds, hf, hs, _ => by
    rw [noteP]
    have hlen := congrArg List.length hf
    rw [List.length_drop, ntsTo_len] at hlen
    simp at hlen
    have : slot = cnt := by omega
    rw [this]
  | n :: l, i, slot, done, ds, hf, hs, hd => by
    rw [noteP_cons]
    rw [List.filter_cons] at hf
    by_cases hn : n.im = id
    · rw [if_pos (decide_eq_true hn)] at hf
      have hlt : slot < cnt := by
        have hlen := congrArg List.length hf
        rw [List.length_drop, ntsTo_len, List.length_cons] at hlen
        omega
      rw [ntsTo_drop id z cnt slot hlt] at hf
      injection hf with h1 h2
      have hdn : ¬ done = true := fun h => by have := hd h; omega
      have htt := ht slot hlt
      subst h1
      rw [if_neg (by simp), if_neg (by rintro (h | h | h | h); exact hdn h; exact h rfl; omega; omega)]
      have hnx : nextP (decide ((slot : Int) = z)) (leftF z q slot) slot = leftF z q (slot + 1) := rfl
      dsimp only
      rw [hnx]
      have hno : ¬ (leftF z q (slot + 1) = 0 ∧ (leftF z q slot ≠ 0 ∨ decide ((slot : Int) = z) = true)) := by
        rintro ⟨e1, e2⟩
        by_cases hq : q = 0
        · subst hq
          rw [leftF_zero] at e2
          rcases e2 with e2 | e2
          · exact e2 rfl
          · exact hq0 rfl (by have := of_decide_eq_true e2; omega)
        · obtain ⟨z0, zb⟩ := hq1 hq
          obtain ⟨zn, rfl⟩ : ∃ m : Nat, z = m := ⟨z.toNat, by omega⟩
          have hb := leftF_bit zn q (by omega) (by simpa using zb) (slot + 1) (by have := hz z0; omega)
          rw [e1] at hb
          simp at hb
      rw [if_neg hno]
      refine noteP_true now sl id z q cnt hc h6 hz hz6 ht hq0 hq1 l (i + 1) (slot + 1) _ ds h2 hlt (fun h => ?_)
      have := of_decide_eq_true h
      have := hz (by omega)
      omega
    · rw [if_neg (by simpa using hn)] at hf
      rw [if_pos hn]
      exact noteP_true now sl id z q cnt hc h6 hz hz6 ht hq0 hq1 l (i + 1) slot done ds hf hs hd
/-- The slots that a receipt fits. -/
theorem fitsA_bit (q : Slt → Bool) : ∀ (l : List Slt) (acc i j : Nat), (fitsA q acc i l).testBit j = (acc.testBit j || (decide (i ≤ j) && match l[j - i]? with | some s => q s | none => false))
  | [], acc, i, j => by rw [fitsA]; simp
  | s :: r, acc, i, j => by
    rw [fitsA_cons, fitsA_bit q r]
    rcases Nat.lt_trichotomy i j with h | h | h
    · have e1 : j - i = (j - (i + 1)) + 1 := by omega
      have e2 : (s :: r)[j - i]? = r[j - (i + 1)]? := by rw [e1]; rfl
      rw [e2]
      have e3 : (if q s then acc ||| 2 ^ i else acc).testBit j = acc.testBit j := by
        split
        · rw [Nat.testBit_or, bit_pow, decide_eq_false (by omega)]; simp
        · rfl
      rw [e3, decide_eq_true (by omega), decide_eq_true (by omega)]
    · subst h
      have e2 : (s :: r)[i - i]? = some s := by rw [Nat.sub_self]; rfl
      rw [e2, decide_eq_false (by omega), decide_eq_true (Nat.le_refl _)]
      simp only [Bool.false_and, Bool.or_false, Bool.true_and]
      cases q s
      · simp
      · rw [if_pos rfl, Nat.testBit_or, bit_pow]; simp
    · rw [decide_eq_false (by omega), decide_eq_false (by omega)]
      have e3 : (if q s then acc ||| 2 ^ i else acc).testBit j = acc.testBit j := by
        split
        · rw [Nat.testBit_or, bit_pow, decide_eq_false (by omega)]; simp
        · rfl
      rw [e3]
      simp
theorem fits_bit (ps : List Pas) (f : Int → Option Int) (now id : Int) (l : List Slt) (r : Rcp) (hr : r.im = id) (j : Nat) : (fitsP ps f now id l r).testBit j = (match l[j]? with | some s => fitB ps f now r s | none => false) := by
  unfold fitsP
  rw [if_pos hr, fitsA_bit]
  simp
theorem fits_other (ps : List Pas) (f : Int → Option Int) (now id : Int) (l : List Slt) (r : Rcp) (hr : r.im ≠ id) : fitsP ps f now id l r = 0 := by unfold fitsP; rw [if_neg hr]
theorem fits_none (ps : List Pas) (f : Int → Option Int) (now id : Int) (l : List Slt) (r : Rcp) (h : ∀ s ∈ l, fitB ps f now r s = false) : fitsP ps f now id l r = 0 := by
  by_cases hr : r.im = id
  · refine Nat.eq_of_testBit_eq fun j => ?_
    rw [fits_bit ps f now id l r hr]
    cases hs : l[j]? with
    | none => simp
    | some s => dsimp only; rw [h s (List.mem_of_getElem? hs)]; simp
  · exact fits_other ps f now id l r hr
/-- A set of slots, filtered by a rule that holds up to some slot. -/
theorem range_filter (p : Nat → Bool) : ∀ m : Nat, (∀ i j, i ≤ j → j < m → p j = true → p i = true) → ∃ k, k ≤ m ∧ (List.range m).filter p = List.range k ∧ (∀ i, i < k → p i = true) ∧ ∀ i, k ≤ i → i < m → p i = false
  | 0, _ => ⟨0, Nat.le_refl _, rfl, fun i h => absurd h (by omega), fun i _ h => absurd h (by omega)⟩
  | m + 1, hm => by
    obtain ⟨k, h1, h2, h3, h4⟩ := range_filter p m (fun i j hi hj => hm i j hi (by omega))
    rw [List.range_succ, List.filter_append, h2]
    by_cases hp : p m = true
    · have hk : k = m := by
        rcases Nat.lt_or_ge k m with hlt | hge
        · have := hm k m (by omega) (by omega) hp
          rw [h4 k (Nat.le_refl _) hlt] at this
          cases this
        · omega
      subst hk
      refine ⟨k + 1, Nat.le_refl _, by rw [List.filter_cons, if_pos hp, List.range_succ]; rfl, fun i hi => ?_, fun i ha hb => absurd hb (by omega)⟩
      rcases Nat.lt_or_ge i k with hlt | hge
      · exact h3 i hlt
      · have : i = k := by omega
        rw [this]; exact hp
    · refine ⟨k, by omega, by rw [List.filter_cons, if_neg hp]; simp, h3, fun i ha hb => ?_⟩
      rcases Nat.lt_or_ge i m with hlt | hge
      · exact h4 i ha hlt
      · have : i = m := by omega
        rw [this]; simpa using hp
end Go.Proofs.Ytmlabgmigakcbaa
namespace Go.Proofs.Ytmlabgmigakcbaa

theorem casO_id (c : Cas) (k : Nat) (h : k < (casO c).length) : (casO c)[k].id = k := by
  have e : ∀ (l : List Opp) (hl : l = casO c) (hk : k < l.length), l[k].id = k := by
    intro l hl hk
    unfold casO at hl
    split at hl
    · subst hl; simp at hk
    · subst hl; simp [optsP]
  exact e _ rfl h
theorem casO_pw (c : Cas) : List.Pairwise (fun a b : Opp => a.id ≠ b.id) (casO c) := by
  rw [List.pairwise_iff_getElem]
  intro i j hi hj hij
  rw [casO_id, casO_id]
  omega
theorem setR_sorted (n : Nat) : ∀ (l : List Nat) (p : Int), List.Pairwise (· < ·) l → (∀ x ∈ l, p < (x : Int) ∧ x < n) → setR n p (l.map (fun k : Nat => (k : Int))) = true
  | [], _, _, _ => rfl
  | x :: r, p, hp, h => by
    rw [List.map_cons, setR_cons, Bool.and_eq_true]
    have hx := h x List.mem_cons_self
    refine ⟨decide_eq_true (by omega), ?_⟩
    have h2 := List.pairwise_cons.1 hp
    exact setR_sorted n r x h2.2 (fun y hy => ⟨by have := h2.1 y hy; omega, (h y (List.mem_cons_of_mem _ hy)).2⟩)
theorem lost_set (c : Cas) : setR (casP c).length (-1) (lostI c) = true := by
  unfold lostI lostP lostK
  refine setR_sorted _ _ _ (List.Pairwise.filter _ List.pairwise_lt_range) (fun x hx => ?_)
  have := (List.mem_filter.1 hx).1
  rw [List.mem_range] at this
  omega
theorem sent_ok (c : Cas) (o : Opp) (ho : o ∈ casO c) : sentOK (toOpt o) (casP c) (lostI c) = true := by
  have hv := cas_valid c
  have h := (valid_vok hv).each (toOpt o) (List.mem_map_of_mem ho)
  have h3 := h.2.2
  have h4 : properP (casP c) = true := passP_proper _
  unfold sentOK
  rw [h4, h3, lost_set]
  rfl
/-- The slot that is confirmed. -/
def zO (c : Cas) (o : Opp) : Int := sentI (lostI c) 0 o.l
theorem sentV_cas (c : Cas) (o : Opp) (ho : o ∈ casO c) : sentV (toOpt o) (casP c) (lostI c) = (zO c o, 0) := by
  unfold sentV
  rw [if_pos (sent_ok c o ho)]
  rfl
theorem zO_bd (c : Cas) (o : Opp) : zO c o = -1 ∨ 0 ≤ zO c o ∧ zO c o < o.l.length := by
  rcases sentI_bd (lostI c) o.l 0 with h | h
  · exact .inl h
  · right; unfold zO; omega
def rcO (c : Cas) (o : Opp) : Rcp := rcpOf (casP c) (casS c) c.wr o.id (sltAt o.l (zO c o))
theorem rcO_im (c : Cas) (o : Opp) : (rcO c o).im = o.id := by
  unfold rcO rcpOf
  split <;> rfl
def rcL (c : Cas) (os : List Opp) : List Rcp := os.flatMap (fun o => if 0 ≤ zO c o then [rcO c o] else [])
def ntL (c : Cas) (os : List Opp) : List Nte := os.flatMap (fun o => ntsOf o.id (zO c o) o.l.length)
theorem wrtL_cas (c : Cas) : ∀ (os : List Opp) (rs : List Rcp) (ns : List Nte), (∀ o ∈ os, o ∈ casO c) → wrtL (casP c) (casS c) (lostI c) c.wr rs ns (os.map toOpt) = some (rs ++ rcL c os, ns ++ ntL c os)
  | [], rs, ns, _ => by rw [List.map_nil, wrtL]; simp [rcL, ntL]
  | o :: r, rs, ns, h => by
    rw [List.map_cons, wrtL_cons, sentV_cas c o (h o List.mem_cons_self)]
    dsimp only
    rw [if_pos rfl, wrtL_cas c r _ _ (fun x hx => h x (List.mem_cons_of_mem _ hx))]
    have e1 : rcL c (o :: r) = (if 0 ≤ zO c o then [rcO c o] else []) ++ rcL c r := by unfold rcL; rw [List.flatMap_cons]
    have e2 : ntL c (o :: r) = ntsOf o.id (zO c o) o.l.length ++ ntL c r := by unfold ntL; rw [List.flatMap_cons]
    rw [e1, e2, ← List.append_assoc, ← List.append_assoc]
    congr 3
    split
    · rfl
    · simp
theorem casW_eq (c : Cas) : casW c = ((rcL c (casO c), ntL c (casO c)), 0) := by
  unfold casW wrtV
  rw [if_pos (cas_valid c), wrtL_cas c (casO c) [] [] (fun o ho => ho)]
  rfl
/-- The slot that is confirmed is over. -/
def overO (c : Cas) (t : Int) (o : Opp) : Prop := 0 ≤ zO c o ∧ ttAt o.l (zO c o).toNat ≤ t
instance (c : Cas) (t : Int) (o : Opp) : Decidable (overO c t o) := inferInstanceAs (Decidable (_ ∧ _))
theorem filter_one (id : Int) (p : Opp → Bool) (hp : ∀ o, p o = true → o.id = id) : ∀ l : List Opp, List.Pairwise (fun a b : Opp => a.id ≠ b.id) l → (l.filter p).length ≤ 1
  | [], _ => by simp
  | o :: r, h => by
    have h2 := List.pairwise_cons.1 h
    rw [List.filter_cons]
    split
    · rename_i ho
      have : r.filter p = [] := by
        rw [List.filter_eq_nil_iff]
        intro x hx hpx
        exact h2.1 x hx (by rw [hp o ho, hp x hpx])
      rw [this]; simp
    · exact filter_one id p hp r h2.2
theorem outL_mem (c : Cas) (t : Int) (r : Rcp) : r ∈ outL (casO c) (lostI c) t (rcL c (casO c)) ↔ ∃ o ∈ casO c, overO c t o ∧ r = rcO c o := by
  unfold outL oneL
  rw [List.mem_flatMap]
  constructor
  · rintro ⟨x, hx, hr⟩
    rw [List.mem_map] at hr
    obtain ⟨o', ho', rfl⟩ := hr
    rw [List.mem_filter] at ho'
    obtain ⟨hm, hp⟩ := ho'
    have hp := of_decide_eq_true hp
    unfold rcL at hx
    rw [List.mem_flatMap] at hx
    obtain ⟨o, ho, hx⟩ := hx
    split at hx
    · rw [List.mem_singleton] at hx
      subst hx
      rw [rcO_im] at hp
      have he : o' = o := by
        obtain ⟨i, hi, rfl⟩ := List.getElem_of_mem hm
        obtain ⟨j, hj, rfl⟩ := List.getElem_of_mem ho
        have h1 := hp.1
        rw [casO_id, casO_id] at h1
        have : i = j := by omega
        subst this
        rfl
      subst he
      exact ⟨o', ho, ⟨hp.2.1, hp.2.2⟩, rfl⟩
    · cases hx
  · rintro ⟨o, ho, ⟨h1, h2⟩, rfl⟩
    refine ⟨rcO c o, ?_, ?_⟩
    · unfold rcL
      rw [List.mem_flatMap]
      exact ⟨o, ho, by rw [if_pos h1]; simp⟩
    · rw [List.mem_map]
      exact ⟨o, List.mem_filter.2 ⟨ho, decide_eq_true ⟨(rcO_im c o).symm, h1, h2⟩⟩, rfl⟩
theorem outL_len (c : Cas) (t : Int) : (outL (casO c) (lostI c) t (rcL c (casO c))).length ≤ 8 := by
  have h : ∀ rs : List Rcp, (outL (casO c) (lostI c) t rs).length ≤ rs.length := by
    intro rs
    induction rs with
    | nil => simp [outL]
    | cons r rs ih =>
      rw [outL_cons, List.length_append, List.length_cons]
      have : (oneL (lostI c) t r (casO c)).length ≤ 1 := by
        unfold oneL
        rw [List.length_map]
        exact filter_one r.im _ (fun o ho => (of_decide_eq_true ho).1) _ (casO_pw c)
      omega
  have h2 := casW_len c
  rw [casW_eq] at h2
  have := h (rcL c (casO c))
  dsimp only at h2
  omega
theorem rotP_mem (turn : Int) (l : List Rcp) (r : Rcp) : r ∈ rotP turn l ↔ r ∈ l := by
  unfold rotP
  generalize (pickI turn (l.length + 1)).toNat = n
  rw [List.mem_append]
  conv => rhs; rw [← List.take_append_drop n l, List.mem_append]
  exact or_comm
theorem rotP_len (turn : Int) (l : List Rcp) : (rotP turn l).length = l.length := by
  unfold rotP
  rw [List.length_append, List.length_drop, List.length_take]
  omega
theorem rotP_zero (l : List Rcp) : rotP 0 l = l := by
  unfold rotP
  have : (pickI 0 (l.length + 1)).toNat = 0 := by unfold pickI; rw [if_neg (by omega), Int.zero_emod]; rfl
  rw [this]; simp
/-- What stations hand on in a case. -/
def ownL (c : Cas) (t turn : Int) : List Rcp := turnedP (casO c) (lostI c) (rcL c (casO c)) t turn
theorem ownL_mem (c : Cas) (t turn : Int) (r : Rcp) : r ∈ ownL c t turn ↔ ∃ o ∈ casO c, overO c t o ∧ r = rcO c o := by
  unfold ownL turnedP
  rw [rotP_mem]
  exact outL_mem c t r
theorem ownL_len (c : Cas) (t turn : Int) : (ownL c t turn).length ≤ 8 := by
  unfold ownL turnedP
  rw [rotP_len]
  exact outL_len c t
/-- Notes. -/
def toldL (c : Cas) (t : Int) (how : List Int) : List Nte := heardP (casO c) (ntL c (casO c)) how t
theorem lefK_le (how : List Int) (i : Nat) : lefK how i ≤ 6 := by
  unfold lefK
  split
  · have := pickI_bd (how.getD i 0) 7 (by omega); omega
  · exact Nat.le_refl _
theorem hearG_len (how : List Int) (t : Int) (ns : List Nte) : ∀ (os : List Opp) (i : Nat), (hearG how t ns i os).length ≤ 6 * os.length
  | [], i => by rw [hearG]; simp
  | o :: r, i => by
    rw [hearG_cons, List.length_append, List.length_take, List.length_cons]
    have := hearG_len how t ns r (i + 1)
    have := lefK_le how i
    omega
theorem toldL_len (c : Cas) (t : Int) (how : List Int) : (toldL c t how).length ≤ 48 := by
  have := hearG_len how t (ntL c (casO c)) (casO c) 0
  have := casO_len c
  unfold toldL heardP
  omega
theorem okN_im {o : Opp} {t : Int} {n : Nte} (h : okN o t n = true) : n.im = o.id := (of_decide_eq_true h).1
theorem hear_filter (how : List Int) (t : Int) (ns : List Nte) : ∀ (os : List Opp) (i k : Nat) (hk : k < os.length), List.Pairwise (fun a b : Opp => a.id ≠ b.id) os → (hearG how t ns i os).filter (fun n => decide (n.im = os[k].id)) = (ns.filter (okN os[k] t)).take (lefK how (i + k))
  | [], _, k, hk, _ => by simp at hk
  | o :: r, i, k, hk, hp => by
    have h2 := List.pairwise_cons.1 hp
    rw [hearG_cons, List.filter_append]
    have hfirst : ∀ x ∈ (ns.filter (okN o t)).take (lefK how i), x.im = o.id := fun x hx => okN_im (List.mem_filter.1 (List.mem_of_mem_take hx)).2
    have hrest : ∀ (q : List Opp) (j : Nat) (x : Nte), x ∈ hearG how t ns j q → ∃ o' ∈ q, x.im = o'.id := by
      intro q
      induction q with
      | nil => intro j x hx; rw [hearG] at hx; cases hx
      | cons o' q ih =>
        intro j x hx
        rw [hearG_cons, List.mem_append] at hx
        rcases hx with hx | hx
        · exact ⟨o', List.mem_cons_self, okN_im (List.mem_filter.1 (List.mem_of_mem_take hx)).2⟩
        · obtain ⟨o2, h1, h3⟩ := ih _ x hx
          exact ⟨o2, List.mem_cons_of_mem _ h1, h3⟩
    cases k with
    | zero =>
      simp only [List.getElem_cons_zero, Nat.add_zero]
      have e1 : ((ns.filter (okN o t)).take (lefK how i)).filter (fun n => decide (n.im = o.id)) = (ns.filter (okN o t)).take (lefK how i) := List.filter_eq_self.2 (fun x hx => decide_eq_true (hfirst x hx))
      have e2 : (hearG how t ns (i + 1) r).filter (fun n => decide (n.im = o.id)) = [] := by
        rw [List.filter_eq_nil_iff]
        intro x hx he
        obtain ⟨o', h1, h3⟩ := hrest r (i + 1) x hx
        exact h2.1 o' h1 (by rw [← h3]; exact (of_decide_eq_true he).symm)
      rw [e1, e2, List.append_nil]
    | succ k =>
      simp only [List.getElem_cons_succ, List.length_cons] at hk ⊢
      have hk' : k < r.length := by omega
      have e1 : ((ns.filter (okN o t)).take (lefK how i)).filter (fun n => decide (n.im = (r[k]'hk').id)) = [] := by
        rw [List.filter_eq_nil_iff]
        intro x hx he
        exact h2.1 (r[k]'hk') (List.getElem_mem hk') (by rw [← hfirst x hx]; exact of_decide_eq_true he)
      rw [e1, List.nil_append, hear_filter how t ns r (i + 1) k hk' h2.2]
      congr 2
      omega
theorem flat_filter (g : Opp → List Nte) (p : Nte → Bool) (o : Opp) : ∀ l : List Opp, o ∈ l → List.Pairwise (fun a b : Opp => a.id ≠ b.id) l → (∀ o' ∈ l, o'.id ≠ o.id → (g o').filter p = []) → (l.flatMap g).filter p = (g o).filter p
  | [], h, _, _ => by cases h
  | x :: r, h, hp, hg => by
    have h2 := List.pairwise_cons.1 hp
    rw [List.flatMap_cons, List.filter_append]
    rcases List.mem_cons.1 h with rfl | h
    · have : (r.flatMap g).filter p = [] := by
        rw [List.filter_eq_nil_iff]
        intro y hy hpy
        obtain ⟨o', h1, h3⟩ := List.mem_flatMap.1 hy
        have := hg o' (List.mem_cons_of_mem _ h1) (fun e => h2.1 o' h1 e.symm)
        rw [List.filter_eq_nil_iff] at this
        exact this y h3 hpy
      rw [this, List.append_nil]
    · rw [hg x List.mem_cons_self (h2.1 o h), List.nil_append]
      exact flat_filter g p o r h h2.2 (fun o' ho' => hg o' (List.mem_cons_of_mem _ ho'))
theorem ntsOf_im (id z : Int) (m : Nat) : ∀ n ∈ ntsOf id z m, n.im = id := by
  intro n hn
  unfold ntsOf ntsTo at hn
  obtain ⟨k, _, rfl⟩ := List.mem_map.1 hn
  rfl
/-- What is heard of an option: its first notes. -/
structure Told (c : Cas) (t : Int) (T : List Nte) (o : Opp) (cnt : Nat) : Prop where
  eq : T.filter (fun n => decide (n.im = o.id)) = ntsTo o.id (zO c o) cnt
  len : cnt ≤ o.l.length
  z : 0 ≤ zO c o → (cnt : Int) ≤ zO c o + 1
  tt : ∀ k, k < cnt → ttAt o.l k ≤ t
theorem slots_mono {ps : List Pas} {l : List Slt} (h : slotsOK ps 0 l = true) (i j : Nat) (hi : i ≤ j) (hj : j < l.length) : ttAt l i ≤ ttAt l j := by
  have := (slots_tt ps l 0 h i j hi hj).2
  rw [ttAt_eq (by omega), ttAt_eq hj]
  exact this
theorem told_of (c : Cas) (t : Int) (how : List Int) (o : Opp) (ho : o ∈ casO c) : ∃ cnt, Told c t (toldL c t how) o cnt ∧ (how = [] → overO c t o → (cnt : Int) = zO c o + 1) := by
  obtain ⟨h0, h6, hs⟩ := cas_slots c o ho
  obtain ⟨k, hk, rfl⟩ := List.getElem_of_mem ho
  generalize ho2 : (casO c)[k] = o at ho h0 h6 hs
  have hzb := zO_bd c o
  obtain ⟨M, hM⟩ : ∃ M : Nat, M = if 0 ≤ zO c o then (zO c o).toNat + 1 else o.l.length := ⟨_, rfl⟩
  have hMl : M ≤ o.l.length := by rw [hM]; split <;> omega
  obtain ⟨m, m1, m2, m3, m4⟩ := range_filter (fun i => decide (ttAt o.l i ≤ t)) M (fun i j hi hj h => decide_eq_true (Int.le_trans (slots_mono hs i j hi (by omega)) (of_decide_eq_true h)))
  have hN : (ntL c (casO c)).filter (okN o t) = ntsTo o.id (zO c o) m := by
    unfold ntL
    rw [flat_filter _ _ o _ ho (casO_pw c) (fun o' _ hne => by
      rw [List.filter_eq_nil_iff]
      intro n hn hp
      exact hne (by rw [← ntsOf_im _ _ _ n hn]; exact okN_im hp))]
    unfold ntsOf
    rw [← hM]
    unfold ntsTo
    rw [← m2, List.filter_map]
    congr 1
    refine List.filter_congr fun i hi => ?_
    rw [List.mem_range] at hi
    show decide (_ ∧ _ ∧ _ ∧ _) = decide _
    rw [decide_eq_decide]
    dsimp only
    rw [show ((i : Int)).toNat = i by omega]
    exact ⟨fun h => h.2.2.2, fun h => ⟨rfl, by omega, by omega, h⟩⟩
  have hf := hear_filter how t (ntL c (casO c)) (casO c) 0 k hk (casO_pw c)
  rw [ho2, hN, Nat.zero_add] at hf
  have ht : (ntsTo o.id (zO c o) m).take (lefK how k) = ntsTo o.id (zO c o) (min (lefK how k) m) := by
    unfold ntsTo
    rw [← List.map_take, List.take_range]
  rw [ht] at hf
  refine ⟨min (lefK how k) m, ⟨hf, by omega, fun hz => ?_, fun i hi => of_decide_eq_true (m3 i (by omega))⟩, fun he hov => ?_⟩
  · rw [if_pos hz] at hM; omega
  · obtain ⟨z0, zt⟩ := hov
    rw [if_pos z0] at hM
    have hl6 : lefK how k = 6 := by rw [he]; rfl
    have hmM : m = M := by
      rcases Nat.lt_or_ge m M with hlt | hge
      · have h1 := of_decide_eq_false (m4 m (Nat.le_refl _) hlt)
        have h2 := slots_mono hs m (zO c o).toNat (by omega) (by omega)
        omega
      · omega
    rw [hl6, hmM]
    omega
end Go.Proofs.Ytmlabgmigakcbaa
namespace Go.Proofs.Ytmlabgmigakcbaa

theorem cas_station (c : Cas) (k : Int) (hk : 0 ≤ k ∧ k < 3) : ∃ st : Stn, (casS c)[(stI k 0 (casS c)).toNat]? = some st ∧ st.id = k ∧ skewF (casS c) k = some st.skew ∧ 0 ≤ st.skew ∧ st.skew < 8 := by
  have h0 := pickI_bd (triAt c.sk 0) 8 (by omega)
  have h1 := pickI_bd (triAt c.sk 1) 8 (by omega)
  have h2 := pickI_bd (triAt c.sk 2) 8 (by omega)
  have e : casS c = [stnOf 0 (triAt c.sk 0), stnOf 1 (triAt c.sk 1), stnOf 2 (triAt c.sk 2)] := rfl
  have hc : k = 0 ∨ k = 1 ∨ k = 2 := by omega
  rw [e]
  rcases hc with rfl | rfl | rfl
  · exact ⟨stnOf 0 (triAt c.sk 0), by simp [stI, stnOf], rfl, by simp [skewF, stnOf], h0.1, h0.2⟩
  · exact ⟨stnOf 1 (triAt c.sk 1), by simp [stI, stnOf], rfl, by simp [skewF, stnOf], h1.1, h1.2⟩
  · exact ⟨stnOf 2 (triAt c.sk 2), by simp [stI, stnOf], rfl, by simp [skewF, stnOf], h2.1, h2.2⟩
theorem slot_pass (ps : List Pas) : ∀ (l : List Slt) (e : Int), slotsOK ps e l = true → ∀ s ∈ l, ∃ p, ps[s.p.toNat]? = some p ∧ s.tt ≤ p.sure.tt
  | [], _, _ => fun s hs => by cases hs
  | x :: r, e, h => by
    rw [slotsOK_cons, Bool.and_eq_true, Bool.and_eq_true] at h
    intro s hs
    rcases List.mem_cons.1 hs with rfl | hs
    · have := h.1.2
      cases hq : ps[s.p.toNat]? with
      | none => rw [hq] at this; cases this
      | some p =>
        rw [hq] at this
        simp only [Bool.and_eq_true, decide_eq_true_eq] at this
        exact ⟨p, rfl, by omega⟩
    · exact slot_pass ps r x.tt h.2 s hs
def qO (c : Cas) (t : Int) (o : Opp) (r : Rcp) : Nat := fitsP (casP c) (skewF (casS c)) t o.id o.l r
theorem qO_eq (c : Cas) (t : Int) (o : Opp) : qOf (casP c) (skewF (casS c)) t (toOpt o) = qO c t o := rfl
theorem qO_other (c : Cas) (t : Int) (o : Opp) (r : Rcp) (h : r.im ≠ o.id) : qO c t o r = 0 := fits_other _ _ _ _ _ _ h
theorem qO_lt (c : Cas) (t : Int) (o : Opp) (r : Rcp) (ho : o ∈ casO c) : qO c t o r < 64 := by
  obtain ⟨_, h6, _⟩ := cas_slots c o ho
  unfold qO fitsP
  split
  · exact fitsA_lt _ _ _ _ (by omega) (by omega)
  · omega
theorem byOf_bd (wr : List Int) (i : Nat) (sk : Int) (h : 0 ≤ sk) : -sk ≤ byOf wr i sk ∧ byOf wr i sk ≤ sk := by
  unfold byOf
  split <;> omega
/-- The receipt of a slot that is over fits it. -/
theorem qO_self (c : Cas) (t : Int) (o : Opp) (ho : o ∈ casO c) (hov : overO c t o) : (qO c t o (rcO c o)).testBit (zO c o).toNat = true := by
  obtain ⟨h0, h6, hs⟩ := cas_slots c o ho
  obtain ⟨z0, zt⟩ := hov
  have hzl : (zO c o).toNat < o.l.length := by rcases zO_bd c o with h | h <;> omega
  unfold qO
  rw [fits_bit _ _ _ _ _ _ (rcO_im c o), List.getElem?_eq_getElem hzl]
  dsimp only
  rw [ttAt_eq hzl] at zt
  have hslt : sltAt o.l (zO c o) = o.l[(zO c o).toNat] := by unfold sltAt; rw [List.getD_eq_getElem?_getD, List.getElem?_eq_getElem hzl]; rfl
  have htt := (slots_tt _ o.l 0 hs _ _ (Nat.le_refl _) hzl).1
  unfold rcO
  rw [hslt]
  have hsm := List.getElem_mem hzl
  generalize o.l[(zO c o).toNat] = s at zt htt hsm
  obtain ⟨p, hp, hpt⟩ := slot_pass _ o.l 0 hs s hsm
  have hpb := passP_bd c.ps p (List.mem_of_getElem? hp)
  have hsta : staOf (casP c) s.p = p.station := by unfold staOf; rw [hp]
  obtain ⟨st, s1, s2, s3, s4, s5⟩ := cas_station c p.station (by omega)
  unfold rcpOf
  rw [hsta, s1]
  have hb := byOf_bd c.wr (stI p.station 0 (casS c)).toNat st.skew s4
  unfold fitB
  rw [hp]
  dsimp only
  simp only [s3, Option.getD_some, Bool.and_eq_true, decide_eq_true_eq]
  exact ⟨⟨⟨zt, s2⟩, by omega⟩, by omega⟩
def QQ (c : Cas) (t : Int) (o : Opp) : Nat := if overO c t o then qO c t o (rcO c o) else 0
theorem QQ_lt (c : Cas) (t : Int) (o : Opp) (ho : o ∈ casO c) : QQ c t o < 64 := by
  unfold QQ
  split
  · exact qO_lt c t o _ ho
  · omega
theorem QQ_zero (c : Cas) (t : Int) (o : Opp) (ho : o ∈ casO c) : QQ c t o = 0 ↔ ¬ overO c t o := by
  unfold QQ
  constructor
  · intro h hov
    rw [if_pos hov] at h
    have := qO_self c t o ho hov
    rw [h] at this
    simp at this
  · intro h
    rw [if_neg h]
/-- Receipts: those of slots that are over, each of them, and others that fit nothing. -/
structure Rcpts (c : Cas) (t : Int) (rs : List Rcp) : Prop where
  each : ∀ r ∈ rs, (∃ o ∈ casO c, overO c t o ∧ r = rcO c o) ∨ (∀ o ∈ casO c, qO c t o r = 0)
  all : ∀ o ∈ casO c, overO c t o → rcO c o ∈ rs
theorem cas_same {c : Cas} {o o' : Opp} (ho : o ∈ casO c) (ho' : o' ∈ casO c) (h : o.id = o'.id) : o = o' := by
  obtain ⟨i, hi, rfl⟩ := List.getElem_of_mem ho
  obtain ⟨j, hj, rfl⟩ := List.getElem_of_mem ho'
  rw [casO_id, casO_id] at h
  have : i = j := by omega
  subst this
  rfl
theorem fate_true (c : Cas) (t : Int) (rs : List Rcp) (T : List Nte) (o : Opp) (cnt : Nat) (ds : List Dsc) (ho : o ∈ casO c) (hr : Rcpts c t rs) (hT : Told c t T o cnt) :
    fateP (qO c t o) t o.l o.id rs T ds = (fateE t o.l o.id (leftF (zO c o) (QQ c t o) cnt), ds) := by
  obtain ⟨h0, h6, hs⟩ := cas_slots c o ho
  have h1 : recvP (qO c t o) o.id 0 0 ds rs = (QQ c t o, ds) := by
    refine (recvP_true (qO c t o) o.id (QQ c t o) rs 0 0 ds (fun r hm => ?_) (.inl rfl)).1 ?_
    · rcases hr.each r hm with ⟨o', ho', hov, rfl⟩ | h
      · by_cases he : o'.id = o.id
        · have := cas_same ho' ho he
          subst this
          right
          unfold QQ
          rw [if_pos hov]
        · left
          exact qO_other c t o _ (by rw [rcO_im]; exact he)
      · exact .inl (h o ho)
    · by_cases hov : overO c t o
      · right
        exact ⟨rcO c o, hr.all o ho hov, by unfold QQ; rw [if_pos hov]⟩
      · left
        exact ((QQ_zero c t o ho).2 hov).symm
  have hzb := zO_bd c o
  have h2 := noteP_true t o.l o.id (zO c o) (QQ c t o) cnt hT.len h6 hT.z (by omega) hT.tt (fun hq hz => (QQ_zero c t o ho).1 hq ⟨hz.1, hT.tt _ (by omega)⟩) (fun hq => by
    have hov : overO c t o := Decidable.byContradiction fun hn => hq ((QQ_zero c t o ho).2 hn)
    refine ⟨hov.1, ?_⟩
    unfold QQ
    rw [if_pos hov]
    exact qO_self c t o ho hov) T 0 0 false ds (by rw [List.drop_zero]; exact hT.eq) (Nat.zero_le _) (fun h => by cases h)
  have e0 : leftF (zO c o) (QQ c t o) 0 = QQ c t o := rfl
  rw [e0] at h2
  unfold fateP
  rw [h1]
  dsimp only
  rw [h2]
def cntO (T : List Nte) (o : Opp) : Nat := (T.filter (fun n => decide (n.im = o.id))).length
theorem Told.cnt {c : Cas} {t : Int} {T : List Nte} {o : Opp} {k : Nat} (h : Told c t T o k) : k = cntO T o := by unfold cntO; rw [h.eq, ntsTo_len]
def trueF (c : Cas) (t : Int) (T : List Nte) (o : Opp) : FteP := fateE t o.l o.id (leftF (zO c o) (QQ c t o) (cntO T o))
theorem recP_true (c : Cas) (t : Int) (rs : List Rcp) (T : List Nte) (hr : Rcpts c t rs) (hT : ∀ o ∈ casO c, ∃ cnt, Told c t T o cnt) : ∀ (os : List Opp) (ds : List Dsc), (∀ o ∈ os, o ∈ casO c) → recP (qOf (casP c) (skewF (casS c)) t) t rs T ds (os.map toOpt) = (os.map (trueF c t T), ds)
  | [], ds, _ => rfl
  | o :: r, ds, h => by
    have ho := h o List.mem_cons_self
    obtain ⟨cnt, ht⟩ := hT o ho
    have hf := fate_true c t rs T o cnt ds ho hr ht
    rw [ht.cnt] at hf
    rw [List.map_cons, recP_cons, qO_eq]
    have e1 : (toOpt o).l = o.l := rfl
    have e2 : (toOpt o).id = o.id := rfl
    rw [e1, e2, hf]
    dsimp only
    rw [recP_true c t rs T hr hT r ds (fun x hx => h x (List.mem_cons_of_mem _ hx))]
    rfl
def strD (c : Cas) (t : Int) (i : Nat) (ds : List Dsc) (rs : List Rcp) : List Dsc := strL (qOf (casP c) (skewF (casS c)) t) ((casO c).map toOpt) i ds rs
theorem rec_true (c : Cas) (t : Int) (rs : List Rcp) (T : List Nte) (hr : Rcpts c t rs) (hT : ∀ o ∈ casO c, ∃ cnt, Told c t T o cnt) (h1 : rs.length ≤ 60) (h2 : T.length ≤ 60) (ht : 0 ≤ t ∧ t ≤ 1000000) :
    recV ((casO c).map toOpt) (casP c) (casS c) rs T t = (((casO c).map (trueF c t T), strD c t 0 [] rs), 0) := by
  have hok : recOK ((casO c).map toOpt) (casP c) (casS c) rs T t = true := by
    unfold recOK
    rw [cas_valid, decide_eq_true h1, decide_eq_true h2, decide_eq_true ht]
    rfl
  unfold recV
  rw [if_pos hok, recP_true c t rs T hr hT (casO c) _ (fun o ho => ho)]
  rfl
theorem strD_append (c : Cas) (t : Int) : ∀ (a b : List Rcp) (i : Nat) (ds : List Dsc), strD c t i ds (a ++ b) = strD c t (i + a.length) (strD c t i ds a) b
  | [], b, i, ds => rfl
  | r :: a, b, i, ds => by
    unfold strD
    rw [List.cons_append, strL_cons, strL_cons]
    have ih := strD_append c t a b (i + 1) (if noneP (qOf (casP c) (skewF (casS c)) t) ((casO c).map toOpt) r then ds ++ [⟨1, r.im, i⟩] else ds)
    unfold strD at ih
    rw [ih, List.length_cons, show i + 1 + a.length = i + (a.length + 1) by omega]
theorem strD_true (c : Cas) (t : Int) : ∀ (l : List Rcp) (i : Nat) (ds : List Dsc), (∀ r ∈ l, ∃ o ∈ casO c, overO c t o ∧ r = rcO c o) → strD c t i ds l = ds
  | [], _, _, _ => rfl
  | r :: l, i, ds, h => by
    unfold strD
    rw [strL_cons]
    have hn : noneP (qOf (casP c) (skewF (casS c)) t) ((casO c).map toOpt) r = false := by
      obtain ⟨o, ho, hov, rfl⟩ := h r List.mem_cons_self
      unfold noneP
      rw [List.all_eq_false]
      refine ⟨toOpt o, List.mem_map_of_mem ho, ?_⟩
      rw [qO_eq]
      have := qO_self c t o ho hov
      intro he
      rw [of_decide_eq_true he] at this
      simp at this
    rw [hn, if_neg (by simp)]
    exact strD_true c t l (i + 1) ds (fun x hx => h x (List.mem_cons_of_mem _ hx))
theorem strD_odd (c : Cas) (t : Int) (r : Rcp) (i : Nat) (ds : List Dsc) (h : ∀ o ∈ casO c, qO c t o r = 0) : strD c t i ds [r] = ds ++ [⟨1, r.im, i⟩] := by
  unfold strD
  rw [strL_cons]
  have hn : noneP (qOf (casP c) (skewF (casS c)) t) ((casO c).map toOpt) r = true := by
    unfold noneP
    rw [List.all_eq_true]
    intro x hx
    obtain ⟨o, ho, rfl⟩ := List.mem_map.1 hx
    rw [qO_eq]
    exact decide_eq_true (h o ho)
  rw [hn, if_pos rfl, strL]
theorem own_rcpts (c : Cas) (t turn : Int) : Rcpts c t (ownL c t turn) := ⟨fun r hr => .inl ((ownL_mem c t turn r).1 hr), fun o ho hov => (ownL_mem c t turn _).2 ⟨o, ho, hov, rfl⟩⟩
theorem told_all (c : Cas) (t : Int) (how : List Int) : ∀ o ∈ casO c, ∃ cnt, Told c t (toldL c t how) o cnt := fun o ho => by obtain ⟨k, h, _⟩ := told_of c t how o ho; exact ⟨k, h⟩
/-- Reconcile of what is true. -/
theorem rec_own (c : Cas) (t turn : Int) (how : List Int) (ht : 0 ≤ t ∧ t ≤ 1000000) : recV ((casO c).map toOpt) (casP c) (casS c) (ownL c t turn) (toldL c t how) t = (((casO c).map (trueF c t (toldL c t how)), []), 0) := by
  rw [rec_true c t _ _ (own_rcpts c t turn) (told_all c t how) (by have := ownL_len c t turn; omega) (by have := toldL_len c t how; omega) ht, strD_true c t _ _ _ (fun r hr => (ownL_mem c t turn r).1 hr)]
/-- What is left of a fate. -/
def lftO (c : Cas) (t : Int) (how : List Int) (o : Opp) : Nat := leftF (zO c o) (QQ c t o) (cntO (toldL c t how) o)
theorem lftO_spec (c : Cas) (t : Int) (how : List Int) (o : Opp) (ho : o ∈ casO c) : lftO c t how o < 64 ∧ (¬ overO c t o → lftO c t how o = 0) ∧ (overO c t o → (lftO c t how o).testBit (zO c o).toNat = true ∧ lftO c t how o ≠ 0) ∧ (how = [] → overO c t o → lftO c t how o = 2 ^ (zO c o).toNat) := by
  obtain ⟨h0, h6, hs⟩ := cas_slots c o ho
  obtain ⟨k, hk, hk2⟩ := told_of c t how o ho
  have hzb := zO_bd c o
  have hQ : overO c t o → (QQ c t o).testBit (zO c o).toNat = true := fun hov => by
    unfold QQ
    rw [if_pos hov]
    exact qO_self c t o ho hov
  have e : lftO c t how o = leftF (zO c o) (QQ c t o) k := by unfold lftO; rw [hk.cnt]
  rw [e]
  have hb : overO c t o → (leftF (zO c o) (QQ c t o) k).testBit (zO c o).toNat = true := fun hov => by
    have h := leftF_bit (zO c o).toNat (QQ c t o) (by omega) (hQ hov) k (by have := hk.z hov.1; omega)
    rw [show (((zO c o).toNat : Nat) : Int) = zO c o by have := hov.1; omega] at h
    exact h
  refine ⟨leftF_lt _ _ (QQ_lt c t o ho) _, fun hn => by rw [(QQ_zero c t o ho).2 hn, leftF_zero], fun hov => ⟨hb hov, fun he => ?_⟩, fun he hov => ?_⟩
  · have := hb hov
    rw [he] at this
    simp at this
  · have h := leftF_one (zO c o).toNat (QQ c t o) (by omega) (hQ hov)
    have hz := hov.1
    rw [show (((zO c o).toNat : Nat) : Int) = zO c o by omega] at h
    have hkz := hk2 he hov
    rw [show (zO c o).toNat + 1 = k by omega] at h
    exact h
end Go.Proofs.Ytmlabgmigakcbaa
namespace Go.Proofs.Ytmlabgmigakcbaa
open Go.RowKit

theorem truth_cas (c : Cas) (OA PA SA : Option Addr) (oc pc sc : Nat) (os : List Opt) (w : World) (hc : CasR w w.heap.size c) (hm : MadeR w c OA PA SA oc pc sc os) :
    Calls Try.prog 12 #[casV c, .slice PA (casP c).length pc, .slice OA (casO c).length oc, .slice SA 3 sc] w fun e w' =>
      ∃ RA_ rn rc NA nn nc, e = .returned (.tuple #[.slice RA_ rn rc, .slice NA nn nc, .bool true]) ∧ RA rcpCells 3 w' w'.heap.size RA_ rn rc (rcL c (casO c)) ∧ RA nteCells 3 w' w'.heap.size NA nn nc (ntL c (casO c)) ∧ rn ≤ 8 ∧ nn ≤ 56 ∧ Ext w w' := by
  have h := truth_any c OA PA SA oc pc sc os w hc hm
  have hl := casW_len c
  rw [casW_eq] at h hl
  dsimp only at h hl
  refine h.mono fun e w' ⟨RA_, rc, NA, nc, he, h1, h2, hx⟩ => ?_
  exact ⟨RA_, _, rc, NA, _, nc, he, h1, h2, hl.1, hl.2, hx⟩
theorem turned_cas (c : Cas) (t turn : Int) (OA PA SA LA RA_ : Option Addr) (oc pc sc ln lc rn rc : Nat) (os : List Opt) (w : World) (hm : MadeR w c OA PA SA oc pc sc os) (hl : RA intCells 1 w w.heap.size LA ln lc (lostI c)) (hr : RA rcpCells 3 w w.heap.size RA_ rn rc (rcL c (casO c))) (hrn : rn ≤ 8) (ht : I64ok turn) :
    Calls Try.prog 30 #[.slice OA (casO c).length oc, .slice PA (casP c).length pc, .slice LA ln lc, .slice RA_ rn rc, .int .i64 t, .int .i64 turn] w fun e w' =>
      ∃ A n k, e = .returned (.slice A n k) ∧ RA rcpCells 3 w' w'.heap.size A n k (ownL c t turn) ∧ n ≤ 8 ∧ (A = none → k = 0) ∧ Ext w w' := by
  have h := turned_any os (casP c) (lostI c) (rcL c (casO c)) t turn OA PA LA RA_ _ oc _ pc ln lc rn rc w hm.ho hm.ps hl hr (fun o ho => by
    have hmem : o.p ∈ casO c := by rw [← hm.op]; exact List.mem_map_of_mem ho
    exact sent_ok c o.p hmem) (casO_len c) (by omega) ht
  rw [hm.op] at h
  refine h.mono fun e w' ⟨v, he, h1, hx⟩ => ?_
  obtain ⟨A, k, rfl, _, _⟩ := own_slice h1
  have hlen : (turnedP (casO c) (lostI c) (rcL c (casO c)) t turn).length ≤ 8 := ownL_len c t turn
  refine ⟨A, _, k, he, RA.of_own h1 rfl (by omega), hlen, fun e => ?_, hx⟩
  rcases own_nil_or h1 with ⟨_, _, h3, _⟩ | ⟨g, h3, _⟩
  · exact h3
  · rw [e] at h3; cases h3
theorem heard_cas (c : Cas) (t : Int) (how : List Int) (OA PA SA NA HA : Option Addr) (oc pc sc nn nc hn hc : Nat) (os : List Opt) (w : World) (hm : MadeR w c OA PA SA oc pc sc os) (hn' : RA nteCells 3 w w.heap.size NA nn nc (ntL c (casO c))) (hh : RA intCells 1 w w.heap.size HA hn hc how) (hok : ∀ x ∈ how, I64ok x) (hnn : nn ≤ 56) :
    Calls Try.prog 31 #[.slice OA (casO c).length oc, .slice NA nn nc, .slice HA hn hc, .int .i64 t] w fun e w' =>
      ∃ A n k, e = .returned (.slice A n k) ∧ RA nteCells 3 w' w'.heap.size A n k (toldL c t how) ∧ n ≤ 48 ∧ Ext w w' := by
  have h := heard_any os (ntL c (casO c)) how t OA NA HA _ oc nn nc hn hc w hm.ho hn' hh hok (casO_len c) (by omega)
  rw [hm.op] at h
  refine h.mono fun e w' ⟨v, he, h1, hx⟩ => ?_
  obtain ⟨A, k, rfl, _, _⟩ := own_slice h1
  have hlen := toldL_len c t how
  have hlen2 : (heardP (casO c) (ntL c (casO c)) how t).length ≤ 48 := hlen
  exact ⟨A, _, k, he, RA.of_own h1 rfl (by omega), hlen2, hx⟩
/-- Reconcile of receipts of which some are true, and of notes that were heard. -/
theorem rec_cas (c : Cas) (t : Int) (how : List Int) (rs : List Rcp) (OA PA SA QA NA : Option Addr) (oc pc sc qn qc nn nc : Nat) (os : List Opt) (w : World) (hm : MadeR w c OA PA SA oc pc sc os) (hq : RA rcpCells 3 w w.heap.size QA qn qc rs) (hn : RA nteCells 3 w w.heap.size NA nn nc (toldL c t how)) (hr : Rcpts c t rs) (hl : rs.length ≤ 60) (ht : 0 ≤ t ∧ t ≤ 1000000) :
    Calls Try.prog 16 #[.slice OA (casO c).length oc, .slice PA (casP c).length pc, .slice SA 3 sc, .slice QA qn qc, .slice NA nn nc, .int .i64 t] w fun e w' =>
      ∃ FA fc DA dc fs, e = .returned (.tuple #[.slice FA (casO c).length fc, .slice DA (strD c t 0 [] rs).length dc, .int .i64 0]) ∧ Fts w' w'.heap.size FA (casO c).length fc fs ∧ fs.map (·.p) = (casO c).map (trueF c t (toldL c t how)) ∧ RA dscCells 3 w' w'.heap.size DA (strD c t 0 [] rs).length dc (strD c t 0 [] rs) ∧ Ext w w' := by
  have h1 := rec_any os (casP c) (casS c) rs (toldL c t how) t OA PA SA QA NA _ oc _ pc 3 sc qn qc nn nc w hm.ho hm.ps hm.st hq hn
  have hr2 := rec_true c t rs (toldL c t how) hr (told_all c t how) hl (by have := toldL_len c t how; omega) ht
  rw [recV_map os, hm.op, hr2] at h1
  dsimp only at h1
  rw [List.length_map] at h1
  refine h1.mono fun e w' ⟨FA, fc, DA, dc, he, ho, hx⟩ => ?_
  obtain ⟨⟨fs, h2, h3⟩, h4⟩ := ho
  exact ⟨FA, fc, DA, dc, fs, he, h2, h3, h4, hx⟩
/-- Reconcile of what is true. -/
theorem rec_own_cas (c : Cas) (t turn : Int) (how : List Int) (OA PA SA QA NA : Option Addr) (oc pc sc qn qc nn nc : Nat) (os : List Opt) (w : World) (hm : MadeR w c OA PA SA oc pc sc os) (hq : RA rcpCells 3 w w.heap.size QA qn qc (ownL c t turn)) (hn : RA nteCells 3 w w.heap.size NA nn nc (toldL c t how)) (ht : 0 ≤ t ∧ t ≤ 1000000) :
    Calls Try.prog 16 #[.slice OA (casO c).length oc, .slice PA (casP c).length pc, .slice SA 3 sc, .slice QA qn qc, .slice NA nn nc, .int .i64 t] w fun e w' =>
      ∃ FA fc DA dc fs, e = .returned (.tuple #[.slice FA (casO c).length fc, .slice DA 0 dc, .int .i64 0]) ∧ Fts w' w'.heap.size FA (casO c).length fc fs ∧ fs.map (·.p) = (casO c).map (trueF c t (toldL c t how)) ∧ Ext w w' := by
  have h := rec_cas c t how (ownL c t turn) OA PA SA QA NA oc pc sc qn qc nn nc os w hm hq hn (own_rcpts c t turn) (by have := ownL_len c t turn; omega) ht
  rw [strD_true c t _ _ _ (fun r hr => (ownL_mem c t turn r).1 hr)] at h
  exact h.mono fun e w' ⟨FA, fc, DA, dc, fs, h1, h2, h3, _, h5⟩ => ⟨FA, fc, DA, dc, fs, h1, h2, h3, h5⟩
theorem sent_cas (c : Cas) (o : Opt) (OA PA SA LA : Option Addr) (oc pc sc ln lc : Nat) (os : List Opt) (w : World) (hm : MadeR w c OA PA SA oc pc sc os) (hl : RA intCells 1 w w.heap.size LA ln lc (lostI c)) (ho : o ∈ os) :
    Calls Try.prog 32 #[.agg (optCells o).toArray, .slice PA (casP c).length pc, .slice LA ln lc] w fun e w' => e = .returned (.tuple #[.int .i64 (zO c o.p), .int .i64 0]) ∧ Ext w w' := by
  have h := sent_any o (casP c) (lostI c) PA LA _ pc ln lc w (hm.ho.each o ho) hm.ps hl
  have hmem : o.p ∈ casO c := by rw [← hm.op]; exact List.mem_map_of_mem ho
  have e : sentV o (casP c) (lostI c) = (zO c o.p, 0) := sentV_cas c o.p hmem
  rw [e] at h
  exact h
/-- The fate of an option, in memory. -/
theorem at_fate {c : Cas} {F : Opp → FteP} {fs : List Fte} {os : List Opt} {k : Nat} (h1 : k < fs.length) (h2 : k < os.length) (e1 : fs.map (·.p) = (casO c).map F) (e2 : os.map Opt.p = casO c) : fs[k].p = F os[k].p ∧ os[k].p ∈ casO c := by
  have h3 : (fs.map (·.p))[k]? = some fs[k].p := by rw [List.getElem?_map, List.getElem?_eq_getElem h1]; rfl
  have h4 : (casO c)[k]? = some os[k].p := by rw [← e2, List.getElem?_map, List.getElem?_eq_getElem h2]; rfl
  rw [e1, List.getElem?_map, h4] at h3
  exact ⟨by injection h3 with h3; exact h3.symm, List.mem_of_getElem? h4⟩
theorem trueF_eq (c : Cas) (t : Int) (how : List Int) (o : Opp) : trueF c t (toldL c t how) o = fateE t o.l o.id (lftO c t how o) := rfl
theorem fateE_im (t : Int) (l : List Slt) (id : Int) (left : Nat) : (fateE t l id left).im = id := by
  unfold fateE endP
  split
  · rfl
  · split <;> rfl
theorem fateE_st (t : Int) (l : List Slt) (id : Int) (left : Nat) : (fateE t l id left).st = if left ≠ 0 then 1 else if openL t l = [] then 3 else 2 := by
  unfold fateE endP
  split
  · rfl
  · split <;> rfl
theorem hasI_mem (l : List Int) (x : Int) (h : x ∈ l) : hasI l x = true := by
  unfold hasI
  rw [List.any_eq_true]
  exact ⟨x, h, decide_eq_true rfl⟩
/-- What ReceiptTruth asks of a fate. -/
theorem truth_fact (c : Cas) (t : Int) (how : List Int) (o : Opp) (ho : o ∈ casO c) : (trueF c t (toldL c t how) o).im = o.id ∧ (overO c t o → (trueF c t (toldL c t how) o).st = 1 ∧ hasI ((trueF c t (toldL c t how) o).l.map (fun k : Nat => (k : Int))) (zO c o) = true) ∧ (¬ overO c t o → (trueF c t (toldL c t how) o).st ≠ 1) := by
  obtain ⟨h1, h2, h3, h4⟩ := lftO_spec c t how o ho
  obtain ⟨_, h6, _⟩ := cas_slots c o ho
  rw [trueF_eq]
  refine ⟨fateE_im _ _ _ _, fun hov => ?_, fun hn => ?_⟩
  · obtain ⟨a, b⟩ := h3 hov
    refine ⟨by rw [fateE_st, if_pos b], ?_⟩
    have hl : (fateE t o.l o.id (lftO c t how o)).l = setL (lftO c t how o) := by unfold fateE; rw [if_pos b]; rfl
    rw [hl]
    refine hasI_mem _ _ (List.mem_map.2 ⟨(zO c o).toNat, mem_setL.2 ⟨?_, a⟩, ?_⟩)
    · rcases zO_bd c o with h | h <;> omega
    · have := hov.1; omega
  · rw [fateE_st, h2 hn, if_neg (by simp)]
    split <;> omega
/-- What ReceiptLog asks. -/
theorem log_fact (c : Cas) (t : Int) (o : Opp) (ho : o ∈ casO c) : (overO c t o → trueF c t (toldL c t []) o = ⟨o.id, 1, [(zO c o).toNat], ttAt o.l (zO c o).toNat, ttAt o.l (zO c o).toNat⟩) ∧ (¬ overO c t o → (trueF c t (toldL c t []) o).st ≠ 1) := by
  refine ⟨fun hov => ?_, (truth_fact c t [] o ho).2.2⟩
  obtain ⟨h1, h2, h3, h4⟩ := lftO_spec c t [] o ho
  obtain ⟨_, h6, _⟩ := cas_slots c o ho
  have hz : (zO c o).toNat < 6 := by rcases zO_bd c o with h | h <;> omega
  rw [trueF_eq]
  unfold fateE
  rw [if_pos (h3 hov).2, h4 rfl hov]
  unfold endP
  rw [setL_pow _ hz]
  rfl
theorem openL_later {t u : Int} (h : t ≤ u) (l : List Slt) (he : openL t l = []) : openL u l = [] := by
  unfold openL at he ⊢
  rw [List.filter_eq_nil_iff] at he ⊢
  intro k hk
  have := he k hk
  simp only [decide_eq_true_eq] at this ⊢
  omega
/-- What ReceiptMore asks: states, and slots. -/
theorem more_fact (c : Cas) (t u : Int) (how : List Int) (o : Opp) (ho : o ∈ casO c) (htu : t ≤ u) :
    (trueF c t (toldL c t how) o).st = (trueF c t (toldL c t []) o).st ∧
    ((trueF c t (toldL c t how) o).st = 3 → (trueF c u (toldL c u []) o).st = 3) ∧
    ((trueF c t (toldL c t how) o).st = 1 → (trueF c u (toldL c u []) o).st = 1) ∧
    ∀ x ∈ (trueF c t (toldL c t []) o).l, hasI ((trueF c t (toldL c t how) o).l.map (fun k : Nat => (k : Int))) (x : Int) = true := by
  obtain ⟨a1, a2, a3, a4⟩ := lftO_spec c t how o ho
  obtain ⟨b1, b2, b3, b4⟩ := lftO_spec c t [] o ho
  obtain ⟨z1, z2, z3, z4⟩ := lftO_spec c u [] o ho
  obtain ⟨hl0, h6, hs⟩ := cas_slots c o ho
  have hzb := zO_bd c o
  rw [trueF_eq, trueF_eq, trueF_eq, fateE_st, fateE_st, fateE_st]
  by_cases hov : overO c t o
  · have hov2 : overO c u o := ⟨hov.1, Int.le_trans hov.2 htu⟩
    rw [if_pos (a3 hov).2, if_pos (b3 hov).2, if_pos (z3 hov2).2]
    refine ⟨rfl, fun h => absurd h (by decide), fun _ => rfl, fun x hx => ?_⟩
    have e1 : (fateE t o.l o.id (lftO c t [] o)).l = setL (lftO c t [] o) := by unfold fateE; rw [if_pos (b3 hov).2]; rfl
    have e2 : (fateE t o.l o.id (lftO c t how o)).l = setL (lftO c t how o) := by unfold fateE; rw [if_pos (a3 hov).2]; rfl
    rw [e1, b4 rfl hov, setL_pow _ (by omega), List.mem_singleton] at hx
    rw [e2, hx]
    exact hasI_mem _ _ (List.mem_map.2 ⟨_, mem_setL.2 ⟨by omega, (a3 hov).1⟩, rfl⟩)
  · rw [a2 hov, b2 hov, if_neg (by simp)]
    refine ⟨rfl, fun h => ?_, fun h => ?_, fun x hx => hasI_mem _ _ (List.mem_map.2 ⟨x, hx, rfl⟩)⟩
    · have hop : openL t o.l = [] := by
        by_cases hh : openL t o.l = []
        · exact hh
        · rw [if_neg hh] at h; omega
      have hn2 : ¬ overO c u o := fun hu => hov ⟨hu.1, by
        have hlast := (openL_nil hs hl0).1 hop
        have := slots_mono hs (zO c o).toNat (o.l.length - 1) (by have := hu.1; omega) (by omega)
        rw [ttAt_eq (by omega : o.l.length - 1 < o.l.length)] at this
        omega⟩
      rw [z2 hn2, if_neg (by simp), if_pos (openL_later htu _ hop)]
    · split at h <;> omega
/-- A receipt far from all slots, or of an image that no option has. -/
theorem odd_none (c : Cas) (t : Int) (r : Rcp) (h : ((casO c).length : Int) ≤ r.im ∨ 20000 ≤ r.at_) : ∀ o ∈ casO c, qO c t o r = 0 := by
  intro o hm
  rcases h with h | h
  · refine qO_other c t o r fun e => ?_
    obtain ⟨k, hk, rfl⟩ := List.getElem_of_mem hm
    rw [casO_id] at e
    omega
  · obtain ⟨h0, h6, hs⟩ := cas_slots c o hm
    refine fits_none _ _ _ _ _ _ fun s hsm => ?_
    obtain ⟨p, hp, hpt⟩ := slot_pass _ o.l 0 hs s hsm
    have hpb := passP_bd c.ps p (List.mem_of_getElem? hp)
    obtain ⟨st, s1, s2, s3, s4, s5⟩ := cas_station c p.station (by omega)
    unfold fitB
    rw [hp]
    dsimp only
    rw [Bool.and_eq_false_iff]
    right
    simp only [s3, Option.getD_some]
    exact decide_eq_false (by omega)
theorem odd_rcpts (c : Cas) (t turn : Int) (r : Rcp) (k : Nat) (h : ∀ o ∈ casO c, qO c t o r = 0) : Rcpts c t ((ownL c t turn).take k ++ r :: (ownL c t turn).drop k) := by
  have hm : ∀ x, x ∈ (ownL c t turn).take k ++ r :: (ownL c t turn).drop k ↔ x = r ∨ x ∈ ownL c t turn := by
    intro x
    rw [List.mem_append, List.mem_cons]
    conv => rhs; rw [← List.take_append_drop k (ownL c t turn), List.mem_append]
    constructor
    · rintro (h | h | h)
      · exact .inr (.inl h)
      · exact .inl h
      · exact .inr (.inr h)
    · rintro (h | h | h)
      · exact .inr (.inl h)
      · exact .inl h
      · exact .inr (.inr h)
  refine ⟨fun x hx => ?_, fun o ho hov => (hm _).2 (.inr ((own_rcpts c t turn).all o ho hov))⟩
  rcases (hm x).1 hx with rfl | hx
  · exact .inr h
  · exact (own_rcpts c t turn).each x hx
theorem odd_strD (c : Cas) (t turn : Int) (r : Rcp) (k : Nat) (hk : k ≤ (ownL c t turn).length) (h : ∀ o ∈ casO c, qO c t o r = 0) : strD c t 0 [] ((ownL c t turn).take k ++ r :: (ownL c t turn).drop k) = [⟨1, r.im, (k : Int)⟩] := by
  have hown : ∀ x ∈ ownL c t turn, ∃ o ∈ casO c, overO c t o ∧ x = rcO c o := fun x hx => (ownL_mem c t turn x).1 hx
  rw [strD_append, strD_true c t _ _ _ (fun x hx => hown x (List.mem_of_mem_take hx)), show r :: (ownL c t turn).drop k = [r] ++ (ownL c t turn).drop k from rfl, strD_append, strD_odd c t r _ _ h, strD_true c t _ _ _ (fun x hx => hown x (List.mem_of_mem_drop hx)), List.length_take, Nat.min_eq_left hk, Nat.zero_add]
  rfl
theorem twice_rcpts (c : Cas) (t turn : Int) : Rcpts c t (ownL c t turn ++ ownL c t turn) :=
  ⟨fun x hx => (own_rcpts c t turn).each x (by rcases List.mem_append.1 hx with h | h <;> exact h), fun o ho hov => List.mem_append_left _ ((own_rcpts c t turn).all o ho hov)⟩
theorem twice_strD (c : Cas) (t turn : Int) : strD c t 0 [] (ownL c t turn ++ ownL c t turn) = [] :=
  strD_true c t _ _ _ (fun x hx => (ownL_mem c t turn x).1 (by rcases List.mem_append.1 hx with h | h <;> exact h))
end Go.Proofs.Ytmlabgmigakcbaa
