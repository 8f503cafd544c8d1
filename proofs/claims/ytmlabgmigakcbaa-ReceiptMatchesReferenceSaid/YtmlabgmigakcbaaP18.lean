/- The stable sort at fewer than 20 deliveries. -/
import Derived.Test.YtmlabgmigakcbaaP17
import Derived.Test.YtmlabgmigakcbaaRows
import Derived.ProofKit
import Derived.OpenShut
import Derived.ChangeOld
import Derived.Below
import Derived.Deep.Slices
import Derived.Test.YtmlabgmigakcbaaP13
namespace Go.Proofs.Ytmlabgmigakcbaa
open Go.RowKit
structure Rw where
 a : Option Addr
 n : Nat
 c : Nat
 l : List Int
def rwCells (r : Rw) : List Value := [.slice r.a r.n r.c]
theorem rw_len (x : Rw) : (rwCells x).length = 1 := rfl
structure Rws (w : World) (B : Nat) (A : Option Addr) (n c : Nat) (rs : List Rw) : Prop where
 out : RA rwCells 1 w B A n c rs
 each : ∀ r ∈ rs, RA intCells 1 w B r.a r.n r.c r.l ∧ (∀ x ∈ r.l, I64ok x) ∧ (r.a = none → r.c = 0)
theorem Rws.below {w w' : World} {B n c : Nat} {A : Option Addr} {rs : List Rw} (h : Rws w B A n c rs) (hb : Below B w w') : Rws w' B A n c rs := ⟨h.out.below hb, fun r hr => ⟨(h.each r hr).1.below hb, (h.each r hr).2⟩⟩
theorem Rws.ext {w w' : World} {n c : Nat} {A : Option Addr} {rs : List Rw} (h : Rws w w.heap.size A n c rs) (hx : Ext w w') : Rws w' w'.heap.size A n c rs := ⟨ra_ext h.out hx, fun r hr => ⟨ra_ext (h.each r hr).1 hx, (h.each r hr).2⟩⟩
theorem RA.cut8 {w : World} {B n c : Nat} {A : Option Addr} {l : List Int} (h : RA intCells 1 w B A n c l) (m : Nat) (hm : m ≤ n) : RA intCells 1 w B A m c (l.take m) := by
 have hl := h.len
 have hf : ∀ l : List Int, l.flatMap intCells = l.map (fun x => Value.int .i64 x) := fun l => by
  induction l with
  | nil => rfl
  | cons x l ih => simp [List.flatMap_cons, intCells, ih]
 refine ⟨⟨?_, fun h0 => ?_⟩, by rw [List.length_take]; omega, Nat.le_trans hm h.cap, h.capM, Nat.le_trans hm h.le⟩
 ·rw [hf, List.length_map, List.length_take]; omega
 ·obtain ⟨b, o, h1, h2, h3⟩ := h.rd.2 (by omega)
  refine ⟨b, o, h1, h2, fun j u hu => h3 j u ?_⟩
  rw [hf] at hu ⊢
  rw [List.getElem?_map] at hu ⊢
  have hj : j < m := by
   rcases Nat.lt_or_ge j m with e | e
   ·exact e
   ·rw [List.getElem?_eq_none (by rw [List.length_take]; omega)] at hu; cases hu
  rw [List.getElem?_take_of_lt hj] at hu
  exact hu
theorem RA.none_take {w : World} {B c : Nat} {A : Option Addr} {n : Nat} {l : List Int} (h : RA intCells 1 w B A n c l) : A = none → n = 0 := by
 intro e
 rcases Nat.eq_zero_or_pos n with h0 | h0
 ·exact h0
 ·obtain ⟨b, o, h1, _⟩ := h.rd.2 h0
  rw [e] at h1; cases h1
def optSlt (ps : List Pas) (x : List Int) : List Slt := optS ps (x.take (min x.length 8))
def optOf (id : Nat) (sl : List Slt) (A : Option Addr) (c : Nat) : Opt := ⟨id, 0, 0, 0, 0, 0, 0, 1, A, sl.length, c, sl⟩
structure Opp where
 id : Int
 l : List Slt
def Opt.p (o : Opt) : Opp := ⟨o.id, o.l⟩
def OwnOs (W : World) (b : Nat) (v : Value) (os : List Opt) : Prop := W.ownsRow b 32 9 v os.length (os.flatMap optCells) ∧ ∀ o ∈ os, o.n = o.l.length ∧ OwnS W b (.slice o.a o.n o.c) o.l
theorem OwnOs.nil (W : World) (b : Nat) : OwnOs W b (.slice none 0 0) [] := ⟨World.ownsRow_nil _ _ _ _, fun x hx => by cases hx⟩
theorem OwnOs.ext {W W' : World} {b : Nat} {v : Value} {os : List Opt} (h : OwnOs W b v os) (hx : Ext W W') : OwnOs W' b v os := ⟨own_ext h.1 hx, fun x hm => ⟨(h.2 x hm).1, own_ext (h.2 x hm).2 hx⟩⟩
theorem OwnOs.base {W : World} {b b' : Nat} {v : Value} {os : List Opt} (h : OwnOs W b v os) (hb : b' ≤ b) : OwnOs W b' v os := ⟨own_base h.1 hb, fun x hm => ⟨(h.2 x hm).1, own_base (h.2 x hm).2 hb⟩⟩
theorem info_opt : (Try.prog.info? 32).map (fun i => (i.zero, i.size, i.bytes)) = some (some (.agg #[.int .i64 0, .int .i64 0, .int .i64 0, .int .i64 0, .int .i64 0, .int .i64 0, .int .i64 0, .int .i64 0, .slice none 0 0]), 9, 88) := by kernel_rfl
theorem opt_snoc {w : World} (ty : TypeId) (os : List Opt) (v : Value) (x : Opt) (base gx : Nat) (jx : Blk w gx 32 (optCells x).toArray) (h : OwnOs w base v os) (hn : x.n = x.l.length) (ho : OwnS w base (.slice x.a x.n x.c) x.l) (hl : os.length ≤ 900) (hb : base ≤ w.heap.size) :
  ∃ v' w', (Builtin.append_ #[36, 36] ty #[v, .slice (some ⟨gx, 0, none⟩) 1 1]).run Try.prog w = .ok v' w' ∧ w.grownBy w' v.ownBlock ∧ OwnOs w' base v' (os ++ [x]) := by
 obtain ⟨i0, hi0, hz0, hz1, hz2⟩ := info_parts info_opt
 obtain ⟨v2, W7, hr, hrow2, hg2, -⟩ := run_append_own (P := Try.prog) w base 36 ty 32 i0 _ 9 88 Try.underlying36 hi0 hz0 hz1 hz2 rfl (by omega) _ _ _ h.1 ⟨gx, 0, none⟩ 1 1 (optCells x) rfl (by intro i u hu; rw [Addr.add_lit, Nat.zero_add, jx.cell]; simpa using hu) (by simp [optCells, Value.oneCell']) (by unfold maxLen; omega) (by omega) hb
 refine ⟨v2, W7, hr, hg2, ?_, fun y hy => ?_⟩
 ·rw [List.length_append, List.flatMap_append]
  simpa using hrow2
 ·rcases List.mem_append.1 hy with hy | hy
  ·exact ⟨(h.2 y hy).1, own_other (h.2 y hy).2 h.1 (by decide) hg2⟩
  ·rw [List.mem_singleton.1 hy]; exact ⟨hn, own_other ho h.1 (by decide) hg2⟩
def optsP (ps : List Pas) (xs : List (List Int)) : List Opp := (xs.take 8).zipIdx.map (fun x => ⟨x.2, optSlt ps x.1⟩)
theorem optsP_take (ps : List Pas) (xs : List (List Int)) (k : Nat) (hk : k < 8) (h : k < xs.length) : optsP ps (xs.take (k + 1)) = optsP ps (xs.take k) ++ [⟨(k : Nat), optSlt ps xs[k]⟩] := by
 unfold optsP
 rw [List.take_take, List.take_take, show min 8 (k + 1) = k + 1 by omega, show min 8 k = k by omega, List.take_succ_eq_append_getElem h, List.zipIdx_append, List.map_append]
 congr 1
 simp
 omega
end Go.Proofs.Ytmlabgmigakcbaa
namespace Go.Proofs.Ytmlabgmigakcbaa
open Go.RowKit
set_option maxRecDepth 100000 in
set_option maxHeartbeats 8000000 in
theorem options_any (ps : List Pas) (rs : List Rw) (PA XA : Option Addr) (pn pc n c : Nat) (w : World) (hp : RA pasCells 6 w w.heap.size PA pn pc ps) (hr : Rws w w.heap.size XA n c rs) (hpn : pn ≤ 100) (hb : PsB ps) :
  Calls Try.prog 37 #[.slice PA pn pc, .slice XA n c] w fun e w' => ∃ v os, e = .returned v ∧ OwnOs w' w.heap.size v os ∧ os.map Opt.p = (if pn = 0 then [] else optsP ps (rs.map (·.l))) ∧ Ext w w' := by
 have hle := hr.out.le
 have HR := Lib.hid hr
 have HP := Lib.hid hp
 have HB := Lib.hid hb
 obtain ⟨fin, hfin⟩ : ∃ x : List Opp, x = (if pn = 0 then [] else optsP ps (rs.map (·.l))) := ⟨_, rfl⟩
 rw [← hfin]
 have HFIN := Lib.hid hfin
 have HST0 : Hid (([] : List Opt).map Opt.p = (if pn = 0 then [] else optsP ps ((rs.map (·.l)).take 0))) := Lib.hid (by split <;> rfl)
 clear hfin hr hp hb
 go_enter Try.func37, Try.ntmps37
 go_wp2
 go_loopw [5, 6] (fun u i wr => ∃ (k : Nat) (os : List Opt), k ≤ n ∧ k ≤ 8 ∧ i = .int .i64 k ∧ Hid (os.map Opt.p = (if pn = 0 then [] else optsP ps ((rs.map (·.l)).take k))) ∧ Hid (OwnOs wr w.heap.size u os) ∧ os.length ≤ k ∧ Ext w wr) (fun _ i _ => n - (intOf i).toNat)
 case atStart => exact ⟨0, [], Nat.zero_le _, Nat.zero_le _, rfl, HST0, Lib.hid (OwnOs.nil _ _), Nat.zero_le _, Ext.refl _⟩
 case round =>
  clear HST0
  obtain ⟨k, os, hk, hk8, rfl, HS, HO, hol, hxo⟩ := hrel
  obtain ⟨A3, c3, hv3, _, _⟩ := own_slice HO.out.1
  subst hv3
  by_cases hkn : k < n
  ·by_cases hk2 : k < 8
   ·obtain ⟨b, ob, hz, hA, _, hc⟩ := (HR.out.below hxo).out.at_ rw_len hkn
    obtain ⟨he1, he2, he3⟩ := HR.out.each rs[k] (List.getElem_mem hz)
    have hkm : k < (rs.map (·.l)).length := by simpa using hz
    have hstep := optsP_take ps (rs.map (·.l)) k hk2 hkm
    rw [List.getElem_map] at hstep
    have c0 : wr.cell? ⟨b, ob + k, none⟩ = some (.slice rs[k].a rs[k].n rs[k].c) := by have h := hc 0 (by omega); rw [Nat.mul_one] at h; exact h
    generalize rs[k] = r at he1 he2 he3 hstep c0
    obtain ⟨xa, xn, xc, xl⟩ := r
    dsimp only at he1 he2 he3 hstep c0
    have HC0 := Lib.hid he3
    have hcall : ∀ W, Ext w W → ∃ (sl : List Slt) (ok : Bool), Calls Try.prog 69 #[.int .i64 (k : Int), .slice PA pn pc, .slice xa (min xn 8) xc] W (OptRet k sl ok W) ∧ ((pn = 0 ∧ sl = [] ∧ ok = false) ∨ (pn ≠ 0 ∧ sl = optSlt ps xl ∧ ok = true)) := by
     intro W hW
     have hcut := (ra_ext he1 hW).cut8 (min xn 8) (Nat.min_le_left _ _)
     by_cases hp0 : pn = 0
     ·subst hp0
      exact ⟨[], false, option_none k PA xa pc _ xc W (by omega), .inl ⟨rfl, rfl, rfl⟩⟩
     ·refine ⟨_, true, option_any k ps (xl.take (min xn 8)) PA xa pn pc _ xc W (ra_ext HP.out hW) hcut (by omega) hpn (fun x hx => he2 x (List.mem_of_mem_take hx)) HB.out, .inr ⟨hp0, ?_, rfl⟩⟩
      unfold optSlt
      rw [he1.len]
    have hxcap := he1.cap
    have hxle := he1.le
    have hxm := he1.capM
    have hxn0 := RA.none_take he1
    have HCALL := Lib.hid hcall
    have HSTEP := Lib.hid hstep
    have HN0 := Lib.hid hxn0
    subst hA
    clear hc hz he1 he2 he3 hstep hcall hkm hxn0
    obtain ⟨sl, ok, HD⟩ : ∃ (sl : List Slt) (ok : Bool), Hid ((∀ W, Ext w W → Calls Try.prog 69 #[.int .i64 (k : Int), .slice PA pn pc, .slice xa (min xn 8) xc] W (OptRet k sl ok W)) ∧ ((pn = 0 ∧ sl = [] ∧ ok = false) ∨ (pn ≠ 0 ∧ sl = optSlt ps xl ∧ ok = true))) := by
     by_cases hp0 : pn = 0
     ·exact ⟨[], false, Lib.hid ⟨fun W hW => by
       obtain ⟨s, o, h1, h2⟩ := HCALL.out W hW
       rcases h2 with ⟨_, h3, h4⟩ | ⟨h3, _, _⟩
       ·rw [h3, h4] at h1; exact h1
       ·exact absurd hp0 h3, .inl ⟨hp0, rfl, rfl⟩⟩⟩
     ·exact ⟨optSlt ps xl, true, Lib.hid ⟨fun W hW => by
       obtain ⟨s, o, h1, h2⟩ := HCALL.out W hW
       rcases h2 with ⟨h3, _, _⟩ | ⟨_, h3, h4⟩
       ·exact absurd h3 hp0
       ·rw [h3, h4] at h1; exact h1, .inr ⟨hp0, rfl, rfl⟩⟩⟩
    clear HCALL
    have hm8 : min xn 8 ≤ xc := by omega
    have hkz : (k : Int) < 8 := by omega
    obtain ⟨m8, hm8e⟩ : ∃ y, y = min xn 8 := ⟨_, rfl⟩
    rw [← hm8e] at HD hm8
    have HM8 := Lib.hid hm8e
    have hm8x : m8 ≤ xn := by omega
    clear hm8e
    have hxs : xa = none → xn = 0 := HN0.out
    go_upto_region 5 with (fail)
    refine wp_region_late 18 16 (fun ix vals v w1 => match ix with | 0 => v = .int .i64 (k : Int) | 1 => v = .slice PA pn pc | 2 => v = .slice (some ⟨b, ob, none⟩) n c | 3 => v = .int .i64 (k : Int) | 4 => v = .pointer (some ⟨b, ob + k, none⟩) | 5 => v = .slice xa xn xc | 6 => v = .slice (some ⟨b, ob, none⟩) n c | 7 => v = .int .i64 (k : Int) | 8 => v = .pointer (some ⟨b, ob + k, none⟩) | 9 => v = .slice xa xn xc | 10 => v = .int .i64 (xn : Int) | 11 => v = .int .i64 (m8 : Int) | 12 => v = .slice xa m8 xc | 13 => ∃ A c, v = .tuple #[.agg #[.int .i64 (k : Int), .int .i64 0, .int .i64 0, .int .i64 0, .int .i64 0, .int .i64 0, .int .i64 0, .int .i64 1, .slice A sl.length c], .bool ok] ∧ OwnS w1 wr.heap.size (.slice A sl.length c) sl | 14 => ∃ A c, v = .tuple #[.agg #[.int .i64 (k : Int), .int .i64 0, .int .i64 0, .int .i64 0, .int .i64 0, .int .i64 0, .int .i64 0, .int .i64 1, .slice A sl.length c], .bool ok] ∧ OwnS w1 wr.heap.size (.slice A sl.length c) sl | 15 => ∃ A c, v = .agg #[.int .i64 (k : Int), .int .i64 0, .int .i64 0, .int .i64 0, .int .i64 0, .int .i64 0, .int .i64 0, .int .i64 1, .slice A sl.length c] ∧ OwnS w1 wr.heap.size (.slice A sl.length c) sl | 16 => v = .bool ok | _ => ∃ g, v = .pointer (some ⟨g, 0, none⟩) ∧ Blk w1 g 32 #[.int .i64 0, .int .i64 0, .int .i64 0, .int .i64 0, .int .i64 0, .int .i64 0, .int .i64 0, .int .i64 0, .slice none 0 0] ∧ wr.heap.size ≤ g) (fun _ _ => none) (by kernel_rfl) (by kernel_rfl) (by kernel_rfl) (by kernel_rfl) _ rfl ?_ ?_ ?_ ?_ ?_
    ·intro ix vals v w1 hi hr k hk
     match ix, hr, hk with
     | 0, _, hk => cases hk
     | 1, _, hk => cases hk
     | 2, _, hk => cases hk
     | 3, _, hk => cases hk
     | 4, _, hk => cases hk
     | 5, _, hk => cases hk
     | 6, _, hk => cases hk
     | 7, _, hk => cases hk
     | 8, _, hk => cases hk
     | 9, _, hk => cases hk
     | 10, _, hk => cases hk
     | 11, _, hk => cases hk
     | 12, _, hk => cases hk
     | 13, _, hk => cases hk
     | 14, _, hk => cases hk
     | 15, _, hk => cases hk
     | 16, _, hk => cases hk
     | (kx + 17), _, hk => cases hk
    ·intro ix vals v w1 w2 hi hr hx
     match ix, hr with
     | 0, hr => exact hr
     | 1, hr => exact hr
     | 2, hr => exact hr
     | 3, hr => exact hr
     | 4, hr => exact hr
     | 5, hr => exact hr
     | 6, hr => exact hr
     | 7, hr => exact hr
     | 8, hr => exact hr
     | 9, hr => exact hr
     | 10, hr => exact hr
     | 11, hr => exact hr
     | 12, hr => exact hr
     | 13, hr => obtain ⟨A, c, h1, h2⟩ := hr; exact ⟨A, c, h1, own_ext h2 hx⟩
     | 14, hr => obtain ⟨A, c, h1, h2⟩ := hr; exact ⟨A, c, h1, own_ext h2 hx⟩
     | 15, hr => obtain ⟨A, c, h1, h2⟩ := hr; exact ⟨A, c, h1, own_ext h2 hx⟩
     | 16, hr => exact hr
     | (kx + 17), hr => obtain ⟨g, h1, h2, h3⟩ := hr; exact ⟨g, h1, h2.ext hx, h3⟩
    ·intro ix vals vals_ v w1 hi hv hr
     exact hr
    ·refine ⟨?_, ?_, ?_, ?_, ?_, ?_, ?_, ?_, ?_, ?_, ?_, ?_, ?_, ?_, ?_, ?_, ?_, ?_, trivial⟩
     ·intro vals w1 hx hd ha
      refine plain1 (fun _ => rfl) ?_
      clear hd ha
      simp only [Lf]
      go_wp2
      exact ⟨rfl, Ext.refl _, rfl⟩
     ·intro vals w1 hx hd ha
      refine plain1 (fun _ => rfl) ?_
      clear hd ha
      simp only [Lf, dstAt, Act.put, List.getElem?_toArray, List.getElem?_cons_zero, Option.bind_some, List.setIfInBounds_toArray, List.set_cons_zero, List.set_cons_succ]
      go_wp2
      exact ⟨rfl, Ext.refl _, rfl⟩
     ·intro vals w1 hx hd ha
      refine plain1 (fun _ => rfl) ?_
      clear hd ha
      simp only [Lf, dstAt, Act.put, List.getElem?_toArray, List.getElem?_cons_zero, List.getElem?_cons_succ, Option.bind_some, List.setIfInBounds_toArray, List.set_cons_zero, List.set_cons_succ]
      go_wp2
      exact ⟨rfl, Ext.refl _, rfl⟩
     ·intro vals w1 hx hd ha
      refine plain1 (fun _ => rfl) ?_
      clear hd ha
      simp only [Lf, dstAt, Act.put, List.getElem?_toArray, List.getElem?_cons_zero, List.getElem?_cons_succ, Option.bind_some, List.setIfInBounds_toArray, List.set_cons_zero, List.set_cons_succ]
      go_wp2
      exact ⟨rfl, Ext.refl _, rfl⟩
     ·intro vals w1 hx hd ha
      have e2 : vals 2 = .slice (some ⟨b, ob, none⟩) n c := hd 2 (by decide)
      have e3 : vals 3 = .int .i64 (k : Int) := hd 3 (by decide)
      refine plain1 (fun _ => rfl) ?_
      clear hd ha
      simp only [Lf, dstAt, Act.put, List.getElem?_toArray, List.getElem?_cons_zero, List.getElem?_cons_succ, Option.bind_some, List.setIfInBounds_toArray, List.set_cons_zero, List.set_cons_succ]
      simp only [e2, e3]
      clear e2 e3
      go_wp2
      exact ⟨rfl, Ext.refl _, rfl⟩
     ·intro vals w1 hx hd ha
      have e4 : vals 4 = .pointer (some ⟨b, ob + k, none⟩) := hd 4 (by decide)
      refine plain1 (fun _ => rfl) ?_
      clear hd ha
      simp only [Lf, dstAt, Act.put, List.getElem?_toArray, List.getElem?_cons_zero, List.getElem?_cons_succ, Option.bind_some, List.setIfInBounds_toArray, List.set_cons_zero, List.set_cons_succ]
      simp only [e4]
      clear e4
      have c0 := ext_cell hx c0
      go_wp2
      exact ⟨rfl, Ext.refl _, rfl⟩
     ·intro vals w1 hx hd ha
      refine plain1 (fun _ => rfl) ?_
      clear hd ha
      simp only [Lf, dstAt, Act.put, List.getElem?_toArray, List.getElem?_cons_zero, List.getElem?_cons_succ, Option.bind_some, List.setIfInBounds_toArray, List.set_cons_zero, List.set_cons_succ]
      go_wp2
      exact ⟨rfl, Ext.refl _, rfl⟩
     ·intro vals w1 hx hd ha
      refine plain1 (fun _ => rfl) ?_
      clear hd ha
      simp only [Lf, dstAt, Act.put, List.getElem?_toArray, List.getElem?_cons_zero, List.getElem?_cons_succ, Option.bind_some, List.setIfInBounds_toArray, List.set_cons_zero, List.set_cons_succ]
      go_wp2
      exact ⟨rfl, Ext.refl _, rfl⟩
     ·intro vals w1 hx hd ha
      have e6 : vals 6 = .slice (some ⟨b, ob, none⟩) n c := hd 6 (by decide)
      have e7 : vals 7 = .int .i64 (k : Int) := hd 7 (by decide)
      refine plain1 (fun _ => rfl) ?_
      clear hd ha
      simp only [Lf, dstAt, Act.put, List.getElem?_toArray, List.getElem?_cons_zero, List.getElem?_cons_succ, Option.bind_some, List.setIfInBounds_toArray, List.set_cons_zero, List.set_cons_succ]
      simp only [e6, e7]
      clear e6 e7
      go_wp2
      exact ⟨rfl, Ext.refl _, rfl⟩
     ·intro vals w1 hx hd ha
      have e8 : vals 8 = .pointer (some ⟨b, ob + k, none⟩) := hd 8 (by decide)
      refine plain1 (fun _ => rfl) ?_
      clear hd ha
      simp only [Lf, dstAt, Act.put, List.getElem?_toArray, List.getElem?_cons_zero, List.getElem?_cons_succ, Option.bind_some, List.setIfInBounds_toArray, List.set_cons_zero, List.set_cons_succ]
      simp only [e8]
      clear e8
      have c0 := ext_cell hx c0
      go_wp2
      exact ⟨rfl, Ext.refl _, rfl⟩
     ·intro vals w1 hx hd ha
      have e9 : vals 9 = .slice xa xn xc := hd 9 (by decide)
      refine plain1 (fun _ => rfl) ?_
      clear hd ha
      simp only [Lf, dstAt, Act.put, List.getElem?_toArray, List.getElem?_cons_zero, List.getElem?_cons_succ, Option.bind_some, List.setIfInBounds_toArray, List.set_cons_zero, List.set_cons_succ]
      simp only [e9]
      clear e9
      go_wp2
      exact ⟨rfl, Ext.refl _, rfl⟩
     ·intro vals w1 hx hd ha
      have e10 : vals 10 = .int .i64 (xn : Int) := hd 10 (by decide)
      refine plain1 (fun _ => rfl) ?_
      clear hd ha
      simp only [Lf, dstAt, Act.put, List.getElem?_toArray, List.getElem?_cons_zero, List.getElem?_cons_succ, Option.bind_some, List.setIfInBounds_toArray, List.set_cons_zero, List.set_cons_succ]
      simp only [e10]
      clear e10
      go_wp2
      all_goals exact ⟨rfl, Ext.refl _, by show Value.int _ _ = Value.int _ _; congr 1; have := HM8.out; omega⟩
     ·intro vals w1 hx hd ha
      have e5 : vals 5 = .slice xa xn xc := hd 5 (by decide)
      have e11 : vals 11 = .int .i64 (m8 : Int) := hd 11 (by decide)
      refine plain1 (fun _ => rfl) ?_
      clear hd ha
      simp only [Lf, dstAt, Act.put, List.getElem?_toArray, List.getElem?_cons_zero, List.getElem?_cons_succ, Option.bind_some, List.setIfInBounds_toArray, List.set_cons_zero, List.set_cons_succ]
      simp only [e5]
      simp only [e11]
      clear e5 e11
      rcases xa with _ | ⟨bx, ox, sp⟩
      ·have h0 := hxs rfl; have h1 : m8 = 0 := (by omega); have h2 := HC0.out rfl; subst h0 h1 h2; go_wp2; exact ⟨rfl, Ext.refl _, rfl⟩
      ·go_wp2; exact ⟨rfl, Ext.refl _, rfl⟩
     ·intro vals w1 hx hd ha
      have e0 : vals 0 = .int .i64 (k : Int) := hd 0 (by decide)
      have e1 : vals 1 = .slice PA pn pc := hd 1 (by decide)
      have e12 : vals 12 = .slice xa m8 xc := hd 12 (by decide)
      refine plain1 (fun _ => rfl) ?_
      clear hd ha
      simp only [Lf, dstAt, Act.put, List.getElem?_toArray, List.getElem?_cons_zero, List.getElem?_cons_succ, Option.bind_some, List.setIfInBounds_toArray, List.set_cons_zero, List.set_cons_succ]
      simp only [e0]
      simp only [e1]
      simp only [e12]
      clear e0 e1 e12
      have hz := Below.size hx.undrew
      go_wp2_with fail
      refine (HD.out.1 w1 (Ext.trans hxo hx.undrew)).mono ?_
      rintro e w2 ⟨A, c, rfl, hown, hb2⟩
      have hown := Lib.hid (own_base hown hz)
      go_wp2
      exact ⟨rfl, hb2, A, c, rfl, hown.out⟩
     ·intro vals w1 hx hd ha
      have r13 : (fun v w1 => ∃ A c, v = .tuple #[.agg #[.int .i64 (k : Int), .int .i64 0, .int .i64 0, .int .i64 0, .int .i64 0, .int .i64 0, .int .i64 0, .int .i64 1, .slice A sl.length c], .bool ok] ∧ OwnS w1 wr.heap.size (.slice A sl.length c) sl) (vals 13) w1 := hd 13 (by decide)
      dsimp only at r13
      refine plain1 (fun _ => rfl) ?_
      clear hd ha
      simp only [Lf, dstAt, Act.put, List.getElem?_toArray, List.getElem?_cons_zero, List.getElem?_cons_succ, Option.bind_some, List.setIfInBounds_toArray, List.set_cons_zero, List.set_cons_succ]
      obtain ⟨A, c, e_13, ho⟩ := r13
      rw [e_13]
      have ho := Lib.hid ho
      go_wp2
      exact ⟨rfl, Ext.refl _, A, c, rfl, ho.out⟩
     ·intro vals w1 hx hd ha
      have r14 : (fun v w1 => ∃ A c, v = .tuple #[.agg #[.int .i64 (k : Int), .int .i64 0, .int .i64 0, .int .i64 0, .int .i64 0, .int .i64 0, .int .i64 0, .int .i64 1, .slice A sl.length c], .bool ok] ∧ OwnS w1 wr.heap.size (.slice A sl.length c) sl) (vals 14) w1 := hd 14 (by decide)
      dsimp only at r14
      refine plain1 (fun _ => rfl) ?_
      clear hd ha
      simp only [Lf, dstAt, Act.put, List.getElem?_toArray, List.getElem?_cons_zero, List.getElem?_cons_succ, Option.bind_some, List.setIfInBounds_toArray, List.set_cons_zero, List.set_cons_succ]
      obtain ⟨A, c, e_14, ho⟩ := r14
      rw [e_14]
      have ho := Lib.hid ho
      go_wp2
      exact ⟨rfl, Ext.refl _, A, c, rfl, ho.out⟩
     ·intro vals w1 hx hd ha
      have r14 : (fun v w1 => ∃ A c, v = .tuple #[.agg #[.int .i64 (k : Int), .int .i64 0, .int .i64 0, .int .i64 0, .int .i64 0, .int .i64 0, .int .i64 0, .int .i64 1, .slice A sl.length c], .bool ok] ∧ OwnS w1 wr.heap.size (.slice A sl.length c) sl) (vals 14) w1 := hd 14 (by decide)
      dsimp only at r14
      refine plain1 (fun _ => rfl) ?_
      clear hd ha
      simp only [Lf, dstAt, Act.put, List.getElem?_toArray, List.getElem?_cons_zero, List.getElem?_cons_succ, Option.bind_some, List.setIfInBounds_toArray, List.set_cons_zero, List.set_cons_succ]
      obtain ⟨A, c, e_14, ho⟩ := r14
      rw [e_14]
      clear ho
      go_wp2
      exact ⟨rfl, Ext.refl _, rfl⟩
     ·intro vals w1 hx hd ha
      refine plain1 (fun _ => rfl) ?_
      clear hd ha
      simp only [Lf, dstAt, Act.put, List.getElem?_toArray, List.getElem?_cons_zero, List.getElem?_cons_succ, Option.bind_some, List.setIfInBounds_toArray, List.set_cons_zero, List.set_cons_succ]
      have hz9 := Below.size hx.undrew
      go_wp2
      exact ⟨rfl, (by repeat (first | exact Below.refl _ _ | assumption | refine Below.drew ?_ | refine below_drewN ?_ _ | refine bl_alloc ?_ _ | refine Below.setCell ?_ (by first | (simp; done) | omega | (simp; omega)) _ | refine bl_then ?_ (by assumption))), _, rfl, Blk.new _ _ _, hz9⟩
    intro vals W5 hy hf _
    obtain ⟨A7, c7, v15, hos⟩ : ∃ A c, vals 15 = .agg #[.int .i64 (k : Int), .int .i64 0, .int .i64 0, .int .i64 0, .int .i64 0, .int .i64 0, .int .i64 0, .int .i64 1, .slice A sl.length c] ∧ OwnS W5 wr.heap.size (.slice A sl.length c) sl := hf 15 (by omega)
    have v16 : vals 16 = .bool ok := hf 16 (by omega)
    obtain ⟨g7, v17, jf, hg7⟩ : ∃ g, vals 17 = .pointer (some ⟨g, 0, none⟩) ∧ Blk W5 g 32 #[.int .i64 0, .int .i64 0, .int .i64 0, .int .i64 0, .int .i64 0, .int .i64 0, .int .i64 0, .int .i64 0, .slice none 0 0] ∧ wr.heap.size ≤ g := hf 17 (by omega)
    have hy := hy.undrew
    have jb := jf.row #[.int .i64 (k : Int), .int .i64 0, .int .i64 0, .int .i64 0, .int .i64 0, .int .i64 0, .int .i64 0, .int .i64 1, .slice A7 sl.length c7]
    have hone := (One.refl g7 W5).row #[.int .i64 (k : Int), .int .i64 0, .int .i64 0, .int .i64 0, .int .i64 0, .int .i64 0, .int .i64 0, .int .i64 1, .slice A7 sl.length c7]
    have hxr := hone.ext hy hg7
    have HOS := Lib.hid (hone.own hos jf (by decide))
    have HJF := Lib.hid jf
    have hws := Below.size hxo
    clear hf hy hos jf hone c0
    simp only [Lf, dstAt, Act.put, List.getElem?_toArray, List.getElem?_cons_zero, List.getElem?_cons_succ, Option.bind_some, List.setIfInBounds_toArray, List.set_cons_zero, List.set_cons_succ]
    rw [v15, v16, v17]
    clear v15 v16 v17
    refine wpList_store_row rfl _ _ _ rfl g7 #[.int .i64 (k : Int), .int .i64 0, .int .i64 0, .int .i64 0, .int .i64 0, .int .i64 0, .int .i64 0, .int .i64 1, .slice A7 sl.length c7] rfl rfl 32 _ HJF.out opt_size rfl (by simp [Value.oneCell']) ?_
    go_wp2_with fail
    refine Qn_of ?_
    refine tail1 19 _ (by kernel_rfl) (by kernel_rfl) rfl ?_
    generalize W5.setRow g7 #[.int .i64 (k : Int), .int .i64 0, .int .i64 0, .int .i64 0, .int .i64 0, .int .i64 0, .int .i64 0, .int .i64 1, .slice A7 sl.length c7] = W6 at jb HOS hxr ⊢
    clear HJF
    rcases HD.out.2 with ⟨hp0, hsl, hokf⟩ | ⟨hp0, hsl, hokt⟩
    ·subst hokf
     have HS2 : Hid (os.map Opt.p = (if pn = 0 then [] else optsP ps ((rs.map (·.l)).take (k + 1)))) := Lib.hid (by have h := HS.out; rw [if_pos hp0] at h ⊢; exact h)
     have HO6 := Lib.hid (HO.out.ext hxr)
     have hx6 := Ext.trans hxo hxr
     clear HD hsl hp0 HS HO jb HOS hxr
     go_wp2
     go_roundw
     case rel => exact ⟨k + 1, os, by omega, by omega, by go_num, HS2, HO6, by omega, hx6⟩
     case measure => simp [intOf]; omega
    ·subst hokt
     have HS2 : Hid ((os ++ [(⟨k, 0, 0, 0, 0, 0, 0, 1, A7, sl.length, c7, sl⟩ : Opt)]).map Opt.p = (if pn = 0 then [] else optsP ps ((rs.map (·.l)).take (k + 1)))) := Lib.hid (by
      have h := HS.out
      rw [if_neg hp0] at h ⊢
      rw [HSTEP.out, List.map_append, h, ← hsl]
      rfl)
     have hx6 := Ext.trans hxo hxr
     have d0 : W6.cell? ⟨g7, 0, none⟩ = some (.int .i64 (k : Int)) := jb.cell 0
     have d1 : W6.cell? ⟨g7, 1, none⟩ = some (.int .i64 0) := jb.cell 1
     have d2 : W6.cell? ⟨g7, 2, none⟩ = some (.int .i64 0) := jb.cell 2
     have d3 : W6.cell? ⟨g7, 3, none⟩ = some (.int .i64 0) := jb.cell 3
     have d4 : W6.cell? ⟨g7, 4, none⟩ = some (.int .i64 0) := jb.cell 4
     have d5 : W6.cell? ⟨g7, 5, none⟩ = some (.int .i64 0) := jb.cell 5
     have d6 : W6.cell? ⟨g7, 6, none⟩ = some (.int .i64 0) := jb.cell 6
     have d7 : W6.cell? ⟨g7, 7, none⟩ = some (.int .i64 1) := jb.cell 7
     have d8 : W6.cell? ⟨g7, 8, none⟩ = some (.slice A7 sl.length c7) := jb.cell 8
     have hxa : Ext W6 (W6.alloc (.cells #[.int .i64 (k : Int), .int .i64 0, .int .i64 0, .int .i64 0, .int .i64 0, .int .i64 0, .int .i64 0, .int .i64 1, .slice A7 sl.length c7] 32)) := bl_alloc (Below.refl _ _) _
     have hxw := Ext.trans hx6 hxa
     obtain ⟨v8, W8, hrun, hg8, ho8⟩ := opt_snoc 36 os (.slice A3 os.length c3) ⟨k, 0, 0, 0, 0, 0, 0, 1, A7, sl.length, c7, sl⟩ w.heap.size W6.heap.size (Blk.new _ _ _) ((HO.out.ext hxr).ext hxa) rfl (own_ext (own_base HOS.out hws) hxa) (by omega) (Below.size hxw)
     have hx8 : Ext w W8 := hxw.grown hg8 (Below.size hxw) (fun q e => (World.ownsRow.lt HO.out.1 q e).1)
     have HO8 := Lib.hid ho8
     have HRUN := Lib.hid hrun
     clear HD hsl hp0 HS HO jb HOS hxr hrun hg8 ho8 hxw hxa hx6
     go_wp2_with (refine wpList_append_run_ rfl _ _ _ rfl rfl rfl HRUN.out ?_)
     go_roundw
     case rel => exact ⟨k + 1, _, by omega, by omega, by go_num, HS2, HO8, by simp; omega, hx8⟩
     case measure => simp [intOf]; omega
   ·obtain rfl : k = 8 := by omega
    have h12 : (8 : Int) < (n : Int) := by omega
    have HF : Hid (os.map Opt.p = fin) := Lib.hid (by
     rw [HS.out, HFIN.out]
     unfold optsP
     rw [List.take_take, show min 8 8 = 8 by omega])
    clear HS HFIN
    go_wp2
    go_ret
    exact ⟨_, os, rfl, HO.out, HF.out, hxo⟩
  ·have HF : Hid (os.map Opt.p = fin) := Lib.hid (by
    rw [HS.out, HFIN.out, List.take_of_length_le (by rw [List.length_map, HR.out.out.len]; omega)])
   clear HS HFIN
   go_wp2
   go_ret
   exact ⟨_, os, rfl, HO.out, HF.out, hxo⟩
end Go.Proofs.Ytmlabgmigakcbaa
namespace Go.Proofs.Ytmlabgmigakcbaa
open Go.RowKit
theorem passL_bd : ∀ (l : List Tri) (a : Int) (m : Int), 0 ≤ a → a + 701 * l.length ≤ m → ∀ p ∈ passL a l, 0 ≤ p.can.fr ∧ p.can.fr ≤ m ∧ p.sure.fr = p.can.fr + 2 ∧ p.can.fr + 8 ≤ p.can.tt ∧ p.can.tt ≤ p.can.fr + 27 ∧ p.sure.tt = p.can.tt - 2 ∧ (0 ≤ p.sat ∧ p.sat < 3) ∧ (0 ≤ p.station ∧ p.station < 3)
 | [], _, _, _, _ => fun p hp => by cases hp
 | t :: r, a, m, ha, hm => by
  rw [passL_cons]
  simp only [List.length_cons] at hm
  have h0 := pickI_bd t.a 700 (by omega)
  have h1 := pickI_bd t.b 3 (by omega)
  have h2 := pickI_bd (t.b.tdiv 3) 3 (by omega)
  have h3 := pickI_bd t.c 20 (by omega)
  intro p hp
  rcases List.mem_cons.1 hp with rfl | hp
  ·unfold passOf
   dsimp only
   omega
  ·exact passL_bd r (a + 1 + pickI t.a 700) m (by omega) (by omega) p hp
theorem passL_len : ∀ (l : List Tri) (a : Int), (passL a l).length = l.length
 | [], _ => rfl
 | t :: r, a => by rw [passL_cons, List.length_cons, List.length_cons, passL_len r]
theorem passP_len (xs : List Tri) : (passP xs).length ≤ 12 := by unfold passP; rw [passL_len, List.length_take]; omega
theorem passP_bd (xs : List Tri) : ∀ p ∈ passP xs, 0 ≤ p.can.fr ∧ p.can.fr ≤ 8500 ∧ p.sure.fr = p.can.fr + 2 ∧ p.can.fr + 8 ≤ p.can.tt ∧ p.can.tt ≤ p.can.fr + 27 ∧ p.sure.tt = p.can.tt - 2 ∧ (0 ≤ p.sat ∧ p.sat < 3) ∧ (0 ≤ p.station ∧ p.station < 3) :=
 passL_bd _ 5 8500 (by omega) (by rw [List.length_take]; omega)
theorem passP_psb (xs : List Tri) : PsB (passP xs) := fun p hp => by have := passP_bd xs p hp; omega
structure Cas where
 ps : List Tri
 os : List Rw
 sk : Tri
 lost : Int
 wr : List Int
 pa : Option Addr
 pn : Nat
 pc : Nat
 oa : Option Addr
 on : Nat
 oc : Nat
 wa : Option Addr
 wn : Nat
 wc : Nat
def casV (c : Cas) : Value := .agg #[.slice c.pa c.pn c.pc, .slice c.oa c.on c.oc, .int .i64 c.sk.a, .int .i64 c.sk.b, .int .i64 c.sk.c, .int .i64 c.lost, .slice c.wa c.wn c.wc]
structure CasR (w : World) (B : Nat) (c : Cas) : Prop where
 ps : RA triCells 3 w B c.pa c.pn c.pc c.ps
 psOk : ∀ t ∈ c.ps, t.ok
 os : Rws w B c.oa c.on c.oc c.os
 sk : c.sk.ok
 lost : I64ok c.lost
 wr : RA intCells 1 w B c.wa c.wn c.wc c.wr
theorem CasR.ext {w w' : World} {c : Cas} (h : CasR w w.heap.size c) (hx : Ext w w') : CasR w' w'.heap.size c := ⟨ra_ext h.ps hx, h.psOk, h.os.ext hx, h.sk, h.lost, ra_ext h.wr hx⟩
def casP (c : Cas) : List Pas := passP c.ps
def casO (c : Cas) : List Opp := if (casP c).length = 0 then [] else optsP (casP c) (c.os.map (·.l))
def casS (c : Cas) : List Stn := stnK c.sk 3
def MadeRet (c : Cas) (w : World) (e : Ending) (w' : World) : Prop := ∃ v vp vs os, e = .returned (.tuple #[v, vp, vs]) ∧ OwnOs w' w.heap.size v os ∧ os.map Opt.p = casO c ∧ OwnP w' w.heap.size vp (casP c) ∧ OwnT w' w.heap.size vs (casS c) ∧ Ext w w'
set_option maxRecDepth 100000 in
set_option maxHeartbeats 8000000 in
theorem made_any (c : Cas) (w : World) (hc : CasR w w.heap.size c) : Calls Try.prog 11 #[casV c] w (MadeRet c w) := by
 have HPA := Lib.hid (fun (W : World) (hW : Ext w W) => passes_any c.ps c.pa c.pn c.pc W (ra_ext hc.ps hW) hc.psOk)
 have HST := Lib.hid (fun (W : World) => stations_any c.sk W hc.sk)
 have HOP : Hid (∀ (W : World) (A : Option Addr) (n cc : Nat), Ext w W → OwnP W w.heap.size (.slice A n cc) (passP c.ps) → Calls Try.prog 37 #[.slice A n cc, .slice c.oa c.on c.oc] W fun e w' => ∃ v os, e = .returned v ∧ OwnOs w' W.heap.size v os ∧ os.map Opt.p = casO c ∧ Ext W w') := Lib.hid (fun W A n cc hW ho => by
  have hn : n = (passP c.ps).length := by
   obtain ⟨_, _, hv, _, _⟩ := own_slice ho
   injection hv
  subst hn
  have hl := passP_len c.ps
  exact options_any (passP c.ps) c.os A c.oa _ cc c.on c.oc W (RA.of_own ho rfl (by omega)) (hc.os.ext hW) (by omega) (passP_psb c.ps))
 unfold MadeRet
 have hP : casP c = passP c.ps := rfl
 rw [hP]
 generalize passP c.ps = PP at HPA HOP ⊢
 generalize casO c = OO at HOP ⊢
 have hS : casS c = stnK c.sk 3 := rfl
 rw [hS]
 generalize stnK c.sk 3 = SS at HST ⊢
 clear hP hS hc
 obtain ⟨ps, os, ⟨sa, sb, sc⟩, lost, wr_, pa, pn, pc, oa, on, oc, wa, wn, wc⟩ := c
 dsimp only at HPA HOP
 have HST2 : Hid (∀ W : World, Calls Try.prog 38 #[.agg #[.int .i64 sa, .int .i64 sb, .int .i64 sc]] W fun e w' => ∃ v, e = .returned v ∧ OwnT w' W.heap.size v SS ∧ Ext W w') := HST
 clear HST
 show Calls Try.prog 11 #[.agg #[.slice pa pn pc, .slice oa on oc, .int .i64 sa, .int .i64 sb, .int .i64 sc, .int .i64 lost, .slice wa wn wc]] w _
 go_enter Try.func11, Try.ntmps11
 go_upto_region 1 with (fail)
 have hx1 : Ext w (w.alloc (.cells #[.slice pa pn pc, .slice oa on oc, .int .i64 sa, .int .i64 sb, .int .i64 sc, .int .i64 lost, .slice wa wn wc] 27)) := bl_alloc (Below.refl _ _) _
 have J := Blk.new w 27 #[.slice pa pn pc, .slice oa on oc, .int .i64 sa, .int .i64 sb, .int .i64 sc, .int .i64 lost, .slice wa wn wc]
 obtain ⟨g1, hg1⟩ : ∃ g, g = w.heap.size := ⟨_, rfl⟩
 rw [← hg1] at J ⊢
 clear hg1
 generalize w.alloc (.cells #[.slice pa pn pc, .slice oa on oc, .int .i64 sa, .int .i64 sb, .int .i64 sc, .int .i64 lost, .slice wa wn wc] 27) = W1 at hx1 J ⊢
 have d0 : W1.cell? ⟨g1, 0, none⟩ = some (.slice pa pn pc) := J.cell 0
 have HJ := Lib.hid J
 clear J
 go_wp2_with fail
 refine (HPA.out _ hx1).mono ?_
 rintro e W2 ⟨vp, rfl, hop, hy⟩
 have hx2 := Ext.trans hx1 hy
 obtain ⟨PA, PC, hvp, _, _⟩ := own_slice hop
 subst hvp
 have d1 : W2.cell? ⟨g1, 1, none⟩ = some (.slice oa on oc) := (HJ.out.ext hy).cell 1
 have d2 : W2.cell? ⟨g1, 2, none⟩ = some (.int .i64 sa) := (HJ.out.ext hy).cell 2
 have d3 : W2.cell? ⟨g1, 3, none⟩ = some (.int .i64 sb) := (HJ.out.ext hy).cell 3
 have d4 : W2.cell? ⟨g1, 4, none⟩ = some (.int .i64 sc) := (HJ.out.ext hy).cell 4
 have HOPP := Lib.hid (own_base hop (Below.size hx1))
 have hz2 := Below.size hx2
 clear d0 hop hy hx1 HPA
 go_upto_region 2 with (fail)
 refine wp_region_obl 11 (fun ix vals v w1 => match ix with | 0 => v = .slice PA PP.length PC | 1 => v = .pointer (some ⟨g1, 1, none⟩) | 2 => v = .slice oa on oc | 3 => ∃ os, OwnOs w1 w.heap.size v os ∧ os.map Opt.p = OO | 4 => v = .slice PA PP.length PC | 5 => v = .pointer (some ⟨g1, 2, none⟩) | 6 => v = .agg #[.int .i64 sa, .int .i64 sb, .int .i64 sc] | 7 => OwnT w1 w.heap.size v SS | 8 => ∃ os, OwnOs w1 w.heap.size v os ∧ os.map Opt.p = OO | 9 => v = .slice PA PP.length PC | _ => OwnT w1 w.heap.size v SS) (by kernel_rfl) (by kernel_rfl) ?_ ?_ ?_ ?_
 ·intro ix vals v w1 w2 hi hr hx
  match ix, hr with
  | 0, hr => exact hr
  | 1, hr => exact hr
  | 2, hr => exact hr
  | 3, hr => obtain ⟨os, h1, h2⟩ := hr; exact ⟨os, h1.ext hx, h2⟩
  | 4, hr => exact hr
  | 5, hr => exact hr
  | 6, hr => exact hr
  | 7, hr => exact OwnT.ext hr hx
  | 8, hr => obtain ⟨os, h1, h2⟩ := hr; exact ⟨os, h1.ext hx, h2⟩
  | 9, hr => exact hr
  | (kx + 10), hr => exact OwnT.ext hr hx
 ·intro ix vals vals_ v w1 hi hv hr
  exact hr
 ·refine ⟨?_, ?_, ?_, ?_, ?_, ?_, ?_, ?_, ?_, ?_, ?_, trivial⟩
  ·intro vals w1 hx hd ha
   clear hd ha
   simp only [Lf]
   go_wp2
   exact ⟨rfl, Ext.refl _, rfl⟩
  ·intro vals w1 hx hd ha
   clear hd ha
   simp only [Lf, dstAt, Act.put, List.getElem?_toArray, List.getElem?_cons_zero, Option.bind_some, List.setIfInBounds_toArray, List.set_cons_zero, List.set_cons_succ]
   go_wp2
   exact ⟨rfl, Ext.refl _, rfl⟩
  ·intro vals w1 hx hd ha
   have e1 : vals 1 = .pointer (some ⟨g1, 1, none⟩) := hd 1 (by decide)
   clear hd ha
   simp only [Lf, dstAt, Act.put, List.getElem?_toArray, List.getElem?_cons_zero, List.getElem?_cons_succ, Option.bind_some, List.setIfInBounds_toArray, List.set_cons_zero, List.set_cons_succ]
   simp only [e1]
   clear e1
   have d1 := ext_cell hx d1
   go_wp2
   exact ⟨rfl, Ext.refl _, rfl⟩
  ·intro vals w1 hx hd ha
   have e0 : vals 0 = .slice PA PP.length PC := hd 0 (by decide)
   have e2 : vals 2 = .slice oa on oc := hd 2 (by decide)
   clear hd ha
   simp only [Lf, dstAt, Act.put, List.getElem?_toArray, List.getElem?_cons_zero, List.getElem?_cons_succ, Option.bind_some, List.setIfInBounds_toArray, List.set_cons_zero, List.set_cons_succ]
   simp only [e0]
   simp only [e2]
   clear e0 e2
   have hz := Below.size hx.undrew
   go_wp2_with fail
   refine (HOP.out w1 PA _ PC (Ext.trans hx2 hx.undrew) (own_ext HOPP.out hx.undrew)).mono ?_
   rintro e w2 ⟨v, os, rfl, h1, h2, hb2⟩
   have h1 := Lib.hid (h1.base (Nat.le_trans hz2 hz))
   have h2 := Lib.hid h2
   go_wp2
   exact ⟨rfl, hb2, os, h1.out, h2.out⟩
  ·intro vals w1 hx hd ha
   clear hd ha
   simp only [Lf, dstAt, Act.put, List.getElem?_toArray, List.getElem?_cons_zero, List.getElem?_cons_succ, Option.bind_some, List.setIfInBounds_toArray, List.set_cons_zero, List.set_cons_succ]
   go_wp2
   exact ⟨rfl, Ext.refl _, rfl⟩
  ·intro vals w1 hx hd ha
   clear hd ha
   simp only [Lf, dstAt, Act.put, List.getElem?_toArray, List.getElem?_cons_zero, List.getElem?_cons_succ, Option.bind_some, List.setIfInBounds_toArray, List.set_cons_zero, List.set_cons_succ]
   go_wp2
   exact ⟨rfl, Ext.refl _, rfl⟩
  ·intro vals w1 hx hd ha
   have e5 : vals 5 = .pointer (some ⟨g1, 2, none⟩) := hd 5 (by decide)
   clear hd ha
   simp only [Lf, dstAt, Act.put, List.getElem?_toArray, List.getElem?_cons_zero, List.getElem?_cons_succ, Option.bind_some, List.setIfInBounds_toArray, List.set_cons_zero, List.set_cons_succ]
   simp only [e5]
   clear e5
   have d2 := ext_cell hx d2; have d3 := ext_cell hx d3; have d4 := ext_cell hx d4
   go_wp2
   exact ⟨rfl, Ext.refl _, rfl⟩
  ·intro vals w1 hx hd ha
   have r3 : (fun v w1 => ∃ os, OwnOs w1 w.heap.size v os ∧ os.map Opt.p = OO) (vals 3) w1 := hd 3 (by decide)
   dsimp only at r3
   have e6 : vals 6 = .agg #[.int .i64 sa, .int .i64 sb, .int .i64 sc] := hd 6 (by decide)
   clear hd ha
   simp only [Lf, dstAt, Act.put, List.getElem?_toArray, List.getElem?_cons_zero, List.getElem?_cons_succ, Option.bind_some, List.setIfInBounds_toArray, List.set_cons_zero, List.set_cons_succ]
   simp only [e6]
   clear e6
   have hz := Below.size hx.undrew
   go_wp2_with fail
   refine (HST2.out w1).mono ?_
   rintro e w2 ⟨v, rfl, h1, hb2⟩
   have h1 := Lib.hid (own_base h1 (Nat.le_trans hz2 hz))
   go_wp2
   exact ⟨rfl, hb2, h1.out⟩
  ·intro vals w1 hx hd ha
   have e0 : vals 0 = .slice PA PP.length PC := hd 0 (by decide)
   have e1 : vals 1 = .pointer (some ⟨g1, 1, none⟩) := hd 1 (by decide)
   have e2 : vals 2 = .slice oa on oc := hd 2 (by decide)
   have r3 : (fun v w1 => ∃ os, OwnOs w1 w.heap.size v os ∧ os.map Opt.p = OO) (vals 3) w1 := hd 3 (by decide)
   dsimp only at r3
   have r7 : (fun v w1 => OwnT w1 w.heap.size v SS) (vals 7) w1 := hd 7 (by decide)
   dsimp only at r7
   clear hd ha
   simp only [Lf, dstAt, Act.put, List.getElem?_toArray, List.getElem?_cons_zero, List.getElem?_cons_succ, Option.bind_some, List.setIfInBounds_toArray, List.set_cons_zero, List.set_cons_succ]
   have r3 := Lib.hid r3
   go_wp2
   exact ⟨rfl, Ext.refl _, r3.out⟩
  ·intro vals w1 hx hd ha
   have e0 : vals 0 = .slice PA PP.length PC := hd 0 (by decide)
   have e1 : vals 1 = .pointer (some ⟨g1, 1, none⟩) := hd 1 (by decide)
   have e2 : vals 2 = .slice oa on oc := hd 2 (by decide)
   have r3 : (fun v w1 => ∃ os, OwnOs w1 w.heap.size v os ∧ os.map Opt.p = OO) (vals 3) w1 := hd 3 (by decide)
   dsimp only at r3
   have e4 : vals 4 = .slice PA PP.length PC := hd 4 (by decide)
   have r8 : (fun v w1 => ∃ os, OwnOs w1 w.heap.size v os ∧ os.map Opt.p = OO) (vals 8) w1 := hd 8 (by decide)
   dsimp only at r8
   clear hd ha
   simp only [Lf, dstAt, Act.put, List.getElem?_toArray, List.getElem?_cons_zero, List.getElem?_cons_succ, Option.bind_some, List.setIfInBounds_toArray, List.set_cons_zero, List.set_cons_succ]
   simp only [e0, e1, e2, e4]
   clear e0 e1 e2 e4
   go_wp2
   exact ⟨rfl, Ext.refl _, rfl⟩
  ·intro vals w1 hx hd ha
   have e0 : vals 0 = .slice PA PP.length PC := hd 0 (by decide)
   have e1 : vals 1 = .pointer (some ⟨g1, 1, none⟩) := hd 1 (by decide)
   have e2 : vals 2 = .slice oa on oc := hd 2 (by decide)
   have r3 : (fun v w1 => ∃ os, OwnOs w1 w.heap.size v os ∧ os.map Opt.p = OO) (vals 3) w1 := hd 3 (by decide)
   dsimp only at r3
   have e4 : vals 4 = .slice PA PP.length PC := hd 4 (by decide)
   have e5 : vals 5 = .pointer (some ⟨g1, 2, none⟩) := hd 5 (by decide)
   have e6 : vals 6 = .agg #[.int .i64 sa, .int .i64 sb, .int .i64 sc] := hd 6 (by decide)
   have r7 : (fun v w1 => OwnT w1 w.heap.size v SS) (vals 7) w1 := hd 7 (by decide)
   dsimp only at r7
   have r8 : (fun v w1 => ∃ os, OwnOs w1 w.heap.size v os ∧ os.map Opt.p = OO) (vals 8) w1 := hd 8 (by decide)
   dsimp only at r8
   have e9 : vals 9 = .slice PA PP.length PC := hd 9 (by decide)
   clear hd ha
   simp only [Lf, dstAt, Act.put, List.getElem?_toArray, List.getElem?_cons_zero, List.getElem?_cons_succ, Option.bind_some, List.setIfInBounds_toArray, List.set_cons_zero, List.set_cons_succ]
   have r7 := Lib.hid r7
   go_wp2
   exact ⟨rfl, Ext.refl _, r7.out⟩
 intro vals W5 hy hf
 obtain ⟨os5, h8, h8b⟩ : ∃ os, OwnOs W5 w.heap.size (vals 8) os ∧ os.map Opt.p = OO := hf 8 (by omega)
 have h9 : vals 9 = .slice PA PP.length PC := hf 9 (by omega)
 have h10 : OwnT W5 w.heap.size (vals 10) SS := hf 10 (by omega)
 have hy := hy.undrew
 have HOPF : Hid (OwnP W5 w.heap.size (.slice PA PP.length PC) PP) := Lib.hid (own_ext HOPP.out hy)
 have HX := Lib.hid (Ext.trans hx2 hy)
 have H8 := Lib.hid h8
 have H8B := Lib.hid h8b
 have H10 := Lib.hid h10
 clear hf h8 h8b h10 d1 d2 d3 d4 hy hx2 HOP
 refine tail0 (by kernel_rfl) ?_
 simp only [Lf, dstAt, Act.put, List.getElem?_toArray, List.getElem?_cons_zero, List.getElem?_cons_succ, Option.bind_some, List.setIfInBounds_toArray, List.set_cons_zero, List.set_cons_succ]
 rw [h9]
 clear h9
 generalize vals 8 = v8 at H8 ⊢
 generalize vals 10 = v10 at H10 ⊢
 go_wp2
 exact bodyPost_ret (v := .tuple #[v8, .slice PA PP.length PC, v10]) (by simp [results, Try.results11, go_sem]) rfl ⟨_, _, _, os5, rfl, H8.out, H8B.out, HOPF.out, H10.out, HX.out⟩
end Go.Proofs.Ytmlabgmigakcbaa
namespace Go.Proofs.Ytmlabgmigakcbaa
open Go.ChangeShapes Go.WideShapes Go.ChangeAt Go.RowKit Go.Deep
theorem ownKn : ownKnob Try.prog.godebug = none := by kernel_rfl
theorem laidOut : laidOutB Try.prog = true := by kernel_rfl
theorem i64_of_wf {n : Int} (h : (Lit.int .i64 n).wf = true) : I64ok n := by
 simpa [I64ok, Lit.wf, IntKind.min, IntKind.max, IntKind.signed, IntKind.bits] using h
section
variable {H : Type} {enc : TypeId × Value → H} {W : World} {base : Nat} {spare : Nat → Bool} {held : Bool}
set_option maxRecDepth 100000 in
theorem open_Tri {cs : List Value} {n : Nat} {x : DataW H × List MemPlace} (h : DataW.trod enc Try.prog W base spare held n 24 cs = some x) : ∃ q : Tri, q.ok ∧ cs = triCells q := by
 obtain ⟨xs, m, _, _, hlen, hxl, hg⟩ := DataW.trod_array Try.underlying24 h
 have hc4 : Try.prog.cellsOf 24 = 3 := by kernel_rfl
 have hc1 : Try.prog.cellsOf 3 = 1 := by kernel_rfl
 rw [hc4] at hlen
 match cs, hlen with
 | [c0, c1, c2], _ =>
  have g0 := hg 0 (by omega)
  have g1 := hg 1 (by omega)
  have g2 := hg 2 (by omega)
  rw [hc1] at g0 g1 g2
  match xs, hxl with
  | [y0, y1, y2], _ =>
   simp at g0 g1 g2
   obtain ⟨a0, e0, _, w0⟩ := DataW.trod_int Try.underlying3 g0
   obtain ⟨a1, e1, _, w1⟩ := DataW.trod_int Try.underlying3 g1
   obtain ⟨a2, e2, _, w2⟩ := DataW.trod_int Try.underlying3 g2
   simp at e0 e1 e2
   subst e0 e1 e2
   exact ⟨⟨a0, a1, a2⟩, ⟨i64_of_wf w0, i64_of_wf w1, i64_of_wf w2⟩, rfl⟩
theorem list_of {α : Type} {P : Nat → α → Prop} (n : Nat) (h : ∀ i, i < n → ∃ x, P i x) : ∃ l : List α, l.length = n ∧ ∀ i x, l[i]? = some x → P i x := by
 induction n with
 | zero => exact ⟨[], rfl, fun i x hx => by simp at hx⟩
 | succ n ih =>
  obtain ⟨l, hl, hp⟩ := ih fun i hi => h i (by omega)
  obtain ⟨x, hx⟩ := h n (by omega)
  refine ⟨l ++ [x], by simp [hl], fun i y hy => ?_⟩
  rw [List.getElem?_append] at hy
  split at hy
  ·exact hp i y hy
  ·rename_i hi
   have hi0 : i - l.length = 0 := by
    rcases Nat.eq_zero_or_pos (i - l.length) with e | e
    ·exact e
    ·rw [List.getElem?_eq_none (by simp; omega)] at hy; cases hy
   rw [hi0] at hy
   simp at hy
   subst hy
   have : i = n := by omega
   subst this
   exact hx
theorem open_rows {α : Type} {cells : α → List Value} {s : Nat} {t te : TypeId} {ok : α → Prop} (hu : Try.prog.underlying t = some (.slice te)) (hcs : Try.prog.cellsOf te = s) (hlen : ∀ q, (cells q).length = s) (h0 : 0 < s)
  (hop : ∀ (m : Nat) (cs : List Value) (x : DataW H × List MemPlace), DataW.trod enc Try.prog W base spare held m te cs = some x → ∃ q, ok q ∧ cs = cells q)
  {fuel : Nat} {v : Value} {z : DataW H × List MemPlace} (hf : DataW.trod enc Try.prog W base spare held fuel t [v] = some z) : ∃ A n c, v = .slice A n c ∧ ∃ xs, RA cells s W W.heap.size A n c xs ∧ (A = none → c = 0) ∧ ∀ x ∈ xs, ok x := by
 rcases open_slice hu hf with ⟨hcs, _⟩ | ⟨a, len, cap, m, n', D, Pl, hcs2, hb, hl, hm, hmm, hx, hi⟩
 ·obtain rfl : v = .slice none 0 0 := by simpa using hcs
  exact ⟨none, 0, 0, rfl, [], ⟨Reads.none_, rfl, Nat.le_refl _, Nat.zero_le _, Nat.zero_le _⟩, fun _ => rfl, fun z hz => by cases hz⟩
 ·obtain rfl : v = .slice (some a) len cap := by simpa using hcs2
  have hlm : len ≤ m := by rw [hmm]; split <;> omega
  obtain ⟨l, hll, hp⟩ := list_of (P := fun i (q : α) => ok q ∧ ∀ j, j < s → W.cell? (a.add (i * s + j)) = (cells q)[j]?) len (fun i hin => by
   obtain ⟨cs', h1, h2⟩ := hi i (by omega)
   rw [hcs] at h1
   obtain ⟨q, hok, rfl⟩ := hop _ _ _ h2
   obtain ⟨_, _, hat⟩ := World.cells?_some h1
   exact ⟨q, hok, fun j hj => by rw [← add_of_add]; exact hat j hj⟩)
  refine ⟨some a, len, cap, rfl, l, ⟨⟨by rw [flat_len hlen, hll], fun hn => ?_⟩, hll, hl, hm, Nat.le_trans hl (by unfold maxLen at hm; exact hm)⟩, fun e => (by cases e), fun x hx => ?_⟩
  ·have hn : 0 < len := hn
   have hz := (hp 0 l[0] (List.getElem?_eq_getElem (by omega))).2 0 h0
   rw [List.getElem?_eq_getElem (by rw [hlen]; exact h0)] at hz
   obtain ⟨b, o, sp⟩ := a
   have hsp : sp = none := by simpa [Addr.add] using World.cell?_spot hz
   subst hsp
   have hlt := World.block_lt_of_cell? W _ hz
   refine ⟨b, o, rfl, by simpa [Addr.add] using hlt, fun j u hu => ?_⟩
   have hj : j < l.length * s := by
    rcases Nat.lt_or_ge j (l.length * s) with e | e
    ·exact e
    ·rw [List.getElem?_eq_none (by rw [flat_len hlen]; exact e)] at hu; cases hu
   have hdm := Nat.div_add_mod j s
   have hmd := Nat.mod_lt j h0
   have hjd : j / s < l.length := by rw [Nat.div_lt_iff_lt_mul h0]; exact hj
   have hcell := (hp (j / s) l[j / s] (List.getElem?_eq_getElem hjd)).2 (j % s) hmd
   have hg := flat_at hlen l (j / s) hjd (j % s) hmd
   rw [Nat.mul_comm (j / s) s, hdm] at hg hcell
   rw [Addr.add_lit] at hcell
   rw [hcell, ← hg, hu]
  ·obtain ⟨i, hil, rfl⟩ := List.mem_iff_getElem.1 hx
   exact (hp i _ (List.getElem?_eq_getElem hil)).1
theorem open_Int {n : Nat} {cs : List Value} {x : DataW H × List MemPlace} (h : DataW.trod enc Try.prog W base spare held n 3 cs = some x) : ∃ q : Int, I64ok q ∧ cs = intCells q := by
 obtain ⟨a, rfl, _, wa⟩ := DataW.trod_int Try.underlying3 h
 exact ⟨a, i64_of_wf wa, rfl⟩
theorem one_cell {cs : List Value} (h : cs.length = 1) : ∃ v, cs = [v] := by
 match cs, h with
 | [v], _ => exact ⟨v, rfl⟩
set_option maxRecDepth 100000 in
theorem open_Nte {n : Nat} {cs : List Value} {x : DataW H × List MemPlace} (h : DataW.trod enc Try.prog W base spare held n 89 cs = some x) : ∃ q : Nte, (I64ok q.im ∧ I64ok q.slot) ∧ cs = nteCells q := by
 obtain ⟨xs, m, _, _, hlen, hxl, hg⟩ := DataW.trod_struct Try.underlying89 h
 have hc3 : Try.prog.cellsOf 89 = 3 := by kernel_rfl
 have hc1 : Try.prog.cellsOf 3 = 1 := by kernel_rfl
 have hcb : Try.prog.cellsOf 4 = 1 := by kernel_rfl
 rw [hc3] at hlen
 match cs, hlen with
 | [c0, c1, c2], _ =>
  have g0 : DataW.trod enc Try.prog W base spare held m 3 (([c0, c1, c2].drop 0).take (Try.prog.cellsOf 3)) = xs[0]? := hg 0 _ rfl
  have g1 : DataW.trod enc Try.prog W base spare held m 3 (([c0, c1, c2].drop 1).take (Try.prog.cellsOf 3)) = xs[1]? := hg 1 _ rfl
  have g2 : DataW.trod enc Try.prog W base spare held m 4 (([c0, c1, c2].drop 2).take (Try.prog.cellsOf 4)) = xs[2]? := hg 2 _ rfl
  rw [hc1] at g0 g1
  rw [hcb] at g2
  match xs, hxl with
  | [y0, y1, y2], _ =>
   simp at g0 g1 g2
   obtain ⟨a0, e0, _, w0⟩ := DataW.trod_int Try.underlying3 g0
   obtain ⟨a1, e1, _, w1⟩ := DataW.trod_int Try.underlying3 g1
   obtain ⟨a2, e2, _⟩ := DataW.trod_bool Try.underlying4 g2
   simp at e0 e1 e2
   subst e0 e1 e2
   exact ⟨⟨a0, a1, a2⟩, ⟨i64_of_wf w0, i64_of_wf w1⟩, rfl⟩
def RwOK (W : World) (q : Rw) : Prop := RA intCells 1 W W.heap.size q.a q.n q.c q.l ∧ (∀ x ∈ q.l, I64ok x) ∧ (q.a = none → q.c = 0)
theorem open_Rw {n : Nat} {cs : List Value} {x : DataW H × List MemPlace} (h : DataW.trod enc Try.prog W base spare held n 25 cs = some x) : ∃ q : Rw, RwOK W q ∧ cs = rwCells q := by
 have hl : cs.length = 1 := by
  rcases open_slice Try.underlying25 h with ⟨hcs, _⟩ | ⟨a, len, cap, m, n', D, Pl, hcs2, _⟩
  ·rw [hcs]; rfl
  ·rw [hcs2]; rfl
 obtain ⟨v, rfl⟩ := one_cell hl
 obtain ⟨A, k, c, rfl, xs, h1, h2, h3⟩ := open_rows (cells := intCells) (s := 1) Try.underlying25 (by kernel_rfl) (fun _ => rfl) (by decide) (fun _ _ _ h => open_Int h) h
 exact ⟨⟨A, k, c, xs⟩, ⟨h1, h3, h2⟩, rfl⟩
set_option maxRecDepth 100000 in
theorem open_Case {v : Value} {d : DataW H} {p : List MemPlace} {r : Reach} {b0 : Nat} (hv : Value.okWide Try.prog W r b0 27 v) (h : DataW.Trod enc Try.prog W base spare held 27 v d p) : ∃ c : Cas, v = casV c ∧ CasR W W.heap.size c := by
 obtain ⟨cs, rfl, hsz⟩ := okWide_struct Try.underlying27 hv
 obtain ⟨fuel, hf⟩ := h
 obtain ⟨xs, m, _, _, hlen, hxl, hg⟩ := DataW.trod_struct Try.underlying27 hf
 obtain ⟨cs⟩ := cs
 simp only [Value.cells] at hlen hg
 have hc7 : Try.prog.cellsOf 27 = 7 := by kernel_rfl
 have hcp : Try.prog.cellsOf 22 = 1 := by kernel_rfl
 have hco : Try.prog.cellsOf 23 = 1 := by kernel_rfl
 have hcs : Try.prog.cellsOf 24 = 3 := by kernel_rfl
 have hci : Try.prog.cellsOf 3 = 1 := by kernel_rfl
 have hcw : Try.prog.cellsOf 25 = 1 := by kernel_rfl
 rw [hc7] at hlen
 match cs, hlen with
 | [c0, c1, c2, c3, c4, c5, c6], _ =>
  have g0 : DataW.trod enc Try.prog W base spare held m 22 (([c0, c1, c2, c3, c4, c5, c6].drop 0).take (Try.prog.cellsOf 22)) = xs[0]? := hg 0 _ rfl
  have g1 : DataW.trod enc Try.prog W base spare held m 23 (([c0, c1, c2, c3, c4, c5, c6].drop 1).take (Try.prog.cellsOf 23)) = xs[1]? := hg 1 _ rfl
  have g2 : DataW.trod enc Try.prog W base spare held m 24 (([c0, c1, c2, c3, c4, c5, c6].drop 2).take (Try.prog.cellsOf 24)) = xs[2]? := hg 2 _ rfl
  have g3 : DataW.trod enc Try.prog W base spare held m 3 (([c0, c1, c2, c3, c4, c5, c6].drop 5).take (Try.prog.cellsOf 3)) = xs[3]? := hg 3 _ rfl
  have g4 : DataW.trod enc Try.prog W base spare held m 25 (([c0, c1, c2, c3, c4, c5, c6].drop 6).take (Try.prog.cellsOf 25)) = xs[4]? := hg 4 _ rfl
  rw [hcp] at g0
  rw [hco] at g1
  rw [hcs] at g2
  rw [hci] at g3
  rw [hcw] at g4
  match xs, hxl with
  | [y0, y1, y2, y3, y4], _ =>
   simp at g0 g1 g2 g3 g4
   obtain ⟨pa, pn, pc, rfl, ps, hp1, _, hp3⟩ := open_rows (cells := triCells) (s := 3) Try.underlying22 (by kernel_rfl) (fun _ => rfl) (by decide) (fun _ _ _ h => open_Tri h) g0
   obtain ⟨oa, on, oc, rfl, os, ho1, _, ho3⟩ := open_rows (cells := rwCells) (s := 1) Try.underlying23 (by kernel_rfl) (fun _ => rfl) (by decide) (fun _ _ _ h => open_Rw h) g1
   obtain ⟨sk, hs1, hs2⟩ := open_Tri g2
   obtain ⟨lo, hl1, hl2⟩ := open_Int g3
   obtain ⟨wa, wn, wc, rfl, wr, hw1, _, hw3⟩ := open_rows (cells := intCells) (s := 1) Try.underlying25 (by kernel_rfl) (fun _ => rfl) (by decide) (fun _ _ _ h => open_Int h) g4
   simp only [triCells, List.cons.injEq, and_true] at hs2
   obtain ⟨rfl, rfl, rfl⟩ := hs2
   obtain rfl : c5 = .int .i64 lo := by simpa [intCells] using hl2
   exact ⟨⟨ps, os, sk, lo, wr, pa, pn, pc, oa, on, oc, wa, wn, wc⟩, rfl, ⟨hp1, hp3, ⟨ho1, ho3⟩, hs1, hl1, hw1⟩⟩
theorem open_Ntes {A : Option Addr} {n c : Nat} {d : DataW H} {p : List MemPlace} (h : DataW.Trod enc Try.prog W base spare held 34 (.slice A n c) d p) : ∃ xs, RA nteCells 3 W W.heap.size A n c xs ∧ (A = none → c = 0) ∧ ∀ x ∈ xs, I64ok x.im ∧ I64ok x.slot := by
 obtain ⟨fuel, hf⟩ := h
 obtain ⟨A', n', c', e, xs, h1, h2, h3⟩ := open_rows (cells := nteCells) (s := 3) Try.underlying34 (by kernel_rfl) (fun _ => rfl) (by decide) (fun _ _ _ h => open_Nte h) hf
 injection e with e1 e2 e3
 subst e1 e2 e3
 exact ⟨xs, h1, h2, h3⟩
theorem open_Ints {A : Option Addr} {n c : Nat} {d : DataW H} {p : List MemPlace} (h : DataW.Trod enc Try.prog W base spare held 25 (.slice A n c) d p) : ∃ xs, RA intCells 1 W W.heap.size A n c xs ∧ (A = none → c = 0) ∧ ∀ x ∈ xs, I64ok x := by
 obtain ⟨fuel, hf⟩ := h
 obtain ⟨A', n', c', e, xs, h1, h2, h3⟩ := open_rows (cells := intCells) (s := 1) Try.underlying25 (by kernel_rfl) (fun _ => rfl) (by decide) (fun _ _ _ h => open_Int h) hf
 injection e with e1 e2 e3
 subst e1 e2 e3
 exact ⟨xs, h1, h2, h3⟩
end
end Go.Proofs.Ytmlabgmigakcbaa
namespace Go.Proofs.Ytmlabgmigakcbaa
open Go.RowKit
theorem insAt_all {α : Type} (lt : α → α → Bool) (l : List α) (n : Nat) (h : l.length = n) : insAt lt l 0 n = sortP lt l := by
 subst h
 simp [insAt]
set_option maxHeartbeats 1000000 in
theorem stable_small (K : Nat) (caps : Array Value) (cv : Evt → Evt → Int) (eg : ∀ args w, (callFunc K args).run Try.prog w = .ok (.enter K args) w) (hcmp : CmpC K caps cv)
  (base g n c : Nat) (l : List Evt) (w : World) (hr : RowS evtCells 7 base 59 g n c w l) (hn : n < 20) :
  Calls Try.prog 84 #[.slice (some ⟨g, 0, none⟩) n c, .int .i64 (n : Int), .func (.func K) #[] caps] w
   fun e w' => e = .returned (.tuple #[]) ∧ RowS evtCells 7 base 59 g n c w' (sortP (ltOf cv) l) ∧ w.grownBy w' (some g) := by
 have hi := insSort_any K caps cv eg hcmp base g n c 0 n l w hr (Nat.zero_le _) (Nat.le_refl _) (by omega)
 rw [insAt_all _ _ _ hr.1] at hi
 have HI := Lib.hid hi
 have hn2 : ¬ (20 : Int) ≤ (n : Int) := by omega
 clear hi hr hcmp
 go_enter Try.func84, Try.ntmps84
 go_wp2
 go_loopw [7, 8] (fun x y wr => x = .int .i64 0 ∧ y = .int .i64 20 ∧ wr = w) (fun _ _ _ => 0)
 case atStart => exact ⟨rfl, rfl, rfl⟩
 case round =>
  obtain ⟨rfl, rfl, rfl⟩ := hrel
  go_wp2_with fail
  refine HI.out.mono ?_
  rintro e w2 ⟨rfl, h1, h2⟩
  have H1 := Lib.hid h1
  have H2 := Lib.hid h2
  clear h1 h2
  go_wp2
  go_loopw [6] (fun x wr => x = .int .i64 20 ∧ wr = w2) (fun _ _ => 0)
  case atStart => exact ⟨rfl, rfl⟩
  case round =>
   obtain ⟨rfl, rfl⟩ := hrel
   go_wp2
   go_end0
   exact ⟨rfl, H1.out, H2.out⟩
theorem sort_small (K : Nat) (caps : Array Value) (cv : Evt → Evt → Int) (eg : ∀ args w, (callFunc K args).run Try.prog w = .ok (.enter K args) w) (hcmp : CmpC K caps cv)
  (base g n c : Nat) (l : List Evt) (w : World) (hr : RowS evtCells 7 base 59 g n c w l) (hn : n < 20) :
  Calls Try.prog 54 #[.slice (some ⟨g, 0, none⟩) n c, .func (.func K) #[] caps] w
   fun e w' => e = .returned (.tuple #[]) ∧ RowS evtCells 7 base 59 g n c w' (sortP (ltOf cv) l) ∧ w.grownBy w' (some g) := by
 have HI := Lib.hid (stable_small K caps cv eg hcmp base g n c l w hr hn)
 clear hr hcmp
 go_enter Try.func54, Try.ntmps54
 go_wp2_with fail
 refine HI.out.mono ?_
 rintro e w2 ⟨rfl, h1, h2⟩
 go_wp2
 go_end0
 exact ⟨rfl, h1, h2⟩
theorem ins_nil (K : Nat) (caps : Array Value) (w : World) : Calls Try.prog 94 #[.slice none 0 0, .int .i64 0, .int .i64 0, .func (.func K) #[] caps] w fun e w' => e = .returned (.tuple #[]) ∧ w = w' := by
 go_enter Try.func94, Try.ntmps94
 go_wp2
 go_loopw [8] (fun i wr => i = .int .i64 1 ∧ wr = w) (fun _ _ => 0)
 case atStart => exact ⟨rfl, rfl⟩
 case round =>
  obtain ⟨rfl, rfl⟩ := hrel
  go_wp2
  go_end0
  exact ⟨rfl, rfl⟩
theorem stable_nil (K : Nat) (caps : Array Value) (w : World) : Calls Try.prog 84 #[.slice none 0 0, .int .i64 0, .func (.func K) #[] caps] w fun e w' => e = .returned (.tuple #[]) ∧ w = w' := by
 go_enter Try.func84, Try.ntmps84
 go_wp2
 go_loopw [7, 8] (fun x y wr => x = .int .i64 0 ∧ y = .int .i64 20 ∧ wr = w) (fun _ _ _ => 0)
 case atStart => exact ⟨rfl, rfl, rfl⟩
 case round =>
  obtain ⟨rfl, rfl, rfl⟩ := hrel
  go_wp2_with (go_at_call 94; refine (ins_nil K caps _).mono ?_; rintro e w' ⟨rfl, rfl⟩)
  go_loopw [6] (fun x wi => x = .int .i64 20 ∧ wi = wr) (fun _ _ => 0)
  case atStart => exact ⟨rfl, rfl⟩
  case round =>
   obtain ⟨rfl, rfl⟩ := hrel
   go_wp2
   go_end0
   exact ⟨rfl, rfl⟩
theorem sort_nil (K : Nat) (caps : Array Value) (w : World) : Calls Try.prog 54 #[.slice none 0 0, .func (.func K) #[] caps] w fun e w' => e = .returned (.tuple #[]) ∧ w = w' := by
 go_enter Try.func54, Try.ntmps54
 go_wp2_with (go_at_call 84; refine (stable_nil K caps _).mono ?_; rintro e w' ⟨rfl, rfl⟩)
 go_end0
 exact ⟨rfl, rfl⟩
end Go.Proofs.Ytmlabgmigakcbaa
