/- Inputs that integers determine: the options' walk. -/
import Derived.Test.YtmlabgmigakcbaaU5
namespace Go.Proofs.Ytmlabgmigakcbaa
open Go.RowKit

set_option maxRecDepth 100000 in
set_option maxHeartbeats 8000000 in
theorem options_any (ps : List Pas) (rs : List Rw) (PA XA : Option Addr) (pn pc n c : Nat) (w : World) (hp : RA pasCells 6 w w.heap.size PA pn pc ps) (hr : Rws w w.heap.size XA n c rs) (hpn : pn ≤ 100) (hb : PsB ps) :
    Calls Try.prog 37 #[.slice PA pn pc, .slice XA n c] w fun e w' => ∃ v os, e = .returned v ∧ OwnOs w' w.heap.size v os ∧ os.map Opt.p = (if pn = 0 then [] else optsP ps (rs.map (·.l))) ∧ Ext w w' := by
  have hle := hr.out.le
  have HR := Lib.hid hr
  have HP := Lib.hid hp
  have HB := Lib.hid hb
  obtain ⟨fin, hfin⟩ : ∃ x : List Opp, x = (if pn = 0 then [] else optsP ps (rs.map (·.l))) := ⟨_, rfl⟩
  rw [← hfin]
  have HFIN := Lib.hid hfin
  have HST0 : Hid (([] : List Opt).map Opt.p = (if pn = 0 then [] else optsP ps ((rs.map (·.l)).take 0))) := Lib.hid (by split <;> rfl)
  clear hfin hr hp hb
  go_enter Try.func37, Try.ntmps37
  go_wp2
  go_loopw [5, 6] (fun u i wr => ∃ (k : Nat) (os : List Opt), k ≤ n ∧ k ≤ 8 ∧ i = .int .i64 k ∧ Hid (os.map Opt.p = (if pn = 0 then [] else optsP ps ((rs.map (·.l)).take k))) ∧ Hid (OwnOs wr w.heap.size u os) ∧ os.length ≤ k ∧ Ext w wr) (fun _ i _ => n - (intOf i).toNat)
  case atStart => exact ⟨0, [], Nat.zero_le _, Nat.zero_le _, rfl, HST0, Lib.hid (OwnOs.nil _ _), Nat.zero_le _, Ext.refl _⟩
  case round =>
    clear HST0
    obtain ⟨k, os, hk, hk8, rfl, HS, HO, hol, hxo⟩ := hrel
    obtain ⟨A3, c3, hv3, _, _⟩ := own_slice HO.out.1
    subst hv3
    by_cases hkn : k < n
    · by_cases hk2 : k < 8
      · obtain ⟨b, ob, hz, hA, _, hc⟩ := (HR.out.below hxo).out.at_ rw_len hkn
        obtain ⟨he1, he2, he3⟩ := HR.out.each rs[k] (List.getElem_mem hz)
        have hkm : k < (rs.map (·.l)).length := by simpa using hz
        have hstep := optsP_take ps (rs.map (·.l)) k hk2 hkm
        rw [List.getElem_map] at hstep
        have c0 : wr.cell? ⟨b, ob + k, none⟩ = some (.slice rs[k].a rs[k].n rs[k].c) := by have h := hc 0 (by omega); rw [Nat.mul_one] at h; exact h
        generalize rs[k] = r at he1 he2 he3 hstep c0
        obtain ⟨xa, xn, xc, xl⟩ := r
        dsimp only at he1 he2 he3 hstep c0
        have HC0 := Lib.hid he3
        have hcall : ∀ W, Ext w W → ∃ (sl : List Slt) (ok : Bool), Calls Try.prog 69 #[.int .i64 (k : Int), .slice PA pn pc, .slice xa (min xn 8) xc] W (OptRet k sl ok W) ∧ ((pn = 0 ∧ sl = [] ∧ ok = false) ∨ (pn ≠ 0 ∧ sl = optSlt ps xl ∧ ok = true)) := by
          intro W hW
          have hcut := (ra_ext he1 hW).cut8 (min xn 8) (Nat.min_le_left _ _)
          by_cases hp0 : pn = 0
          · subst hp0
            exact ⟨[], false, option_none k PA xa pc _ xc W (by omega), .inl ⟨rfl, rfl, rfl⟩⟩
          · refine ⟨_, true, option_any k ps (xl.take (min xn 8)) PA xa pn pc _ xc W (ra_ext HP.out hW) hcut (by omega) hpn (fun x hx => he2 x (List.mem_of_mem_take hx)) HB.out, .inr ⟨hp0, ?_, rfl⟩⟩
            unfold optSlt
            rw [he1.len]
        have hxcap := he1.cap
        have hxle := he1.le
        have hxm := he1.capM
        have hxn0 := RA.none_take he1
        have HCALL := Lib.hid hcall
        have HSTEP := Lib.hid hstep
        have HN0 := Lib.hid hxn0
        subst hA
        clear hc hz he1 he2 he3 hstep hcall hkm hxn0
        obtain ⟨sl, ok, HD⟩ : ∃ (sl : List Slt) (ok : Bool), Hid ((∀ W, Ext w W → Calls Try.prog 69 #[.int .i64 (k : Int), .slice PA pn pc, .slice xa (min xn 8) xc] W (OptRet k sl ok W)) ∧ ((pn = 0 ∧ sl = [] ∧ ok = false) ∨ (pn ≠ 0 ∧ sl = optSlt ps xl ∧ ok = true))) := by
          by_cases hp0 : pn = 0
          · exact ⟨[], false, Lib.hid ⟨fun W hW => by
              obtain ⟨s, o, h1, h2⟩ := HCALL.out W hW
              rcases h2 with ⟨_, h3, h4⟩ | ⟨h3, _, _⟩
              · rw [h3, h4] at h1; exact h1
              · exact absurd hp0 h3, .inl ⟨hp0, rfl, rfl⟩⟩⟩
          · exact ⟨optSlt ps xl, true, Lib.hid ⟨fun W hW => by
              obtain ⟨s, o, h1, h2⟩ := HCALL.out W hW
              rcases h2 with ⟨h3, _, _⟩ | ⟨_, h3, h4⟩
              · exact absurd h3 hp0
              · rw [h3, h4] at h1; exact h1, .inr ⟨hp0, rfl, rfl⟩⟩⟩
        clear HCALL
        have hm8 : min xn 8 ≤ xc := by omega
        have hkz : (k : Int) < 8 := by omega
        obtain ⟨m8, hm8e⟩ : ∃ y, y = min xn 8 := ⟨_, rfl⟩
        rw [← hm8e] at HD hm8
        have HM8 := Lib.hid hm8e
        have hm8x : m8 ≤ xn := by omega
        clear hm8e
        have hxs : xa = none → xn = 0 := HN0.out
        go_upto_region 5 with (fail)
        refine wp_region_late 18 16 (fun ix vals v w1 => match ix with | 0 => v = .int .i64 (k : Int) | 1 => v = .slice PA pn pc | 2 => v = .slice (some ⟨b, ob, none⟩) n c | 3 => v = .int .i64 (k : Int) | 4 => v = .pointer (some ⟨b, ob + k, none⟩) | 5 => v = .slice xa xn xc | 6 => v = .slice (some ⟨b, ob, none⟩) n c | 7 => v = .int .i64 (k : Int) | 8 => v = .pointer (some ⟨b, ob + k, none⟩) | 9 => v = .slice xa xn xc | 10 => v = .int .i64 (xn : Int) | 11 => v = .int .i64 (m8 : Int) | 12 => v = .slice xa m8 xc | 13 => ∃ A c, v = .tuple #[.agg #[.int .i64 (k : Int), .int .i64 0, .int .i64 0, .int .i64 0, .int .i64 0, .int .i64 0, .int .i64 0, .int .i64 1, .slice A sl.length c], .bool ok] ∧ OwnS w1 wr.heap.size (.slice A sl.length c) sl | 14 => ∃ A c, v = .tuple #[.agg #[.int .i64 (k : Int), .int .i64 0, .int .i64 0, .int .i64 0, .int .i64 0, .int .i64 0, .int .i64 0, .int .i64 1, .slice A sl.length c], .bool ok] ∧ OwnS w1 wr.heap.size (.slice A sl.length c) sl | 15 => ∃ A c, v = .agg #[.int .i64 (k : Int), .int .i64 0, .int .i64 0, .int .i64 0, .int .i64 0, .int .i64 0, .int .i64 0, .int .i64 1, .slice A sl.length c] ∧ OwnS w1 wr.heap.size (.slice A sl.length c) sl | 16 => v = .bool ok | _ => ∃ g, v = .pointer (some ⟨g, 0, none⟩) ∧ Blk w1 g 32 #[.int .i64 0, .int .i64 0, .int .i64 0, .int .i64 0, .int .i64 0, .int .i64 0, .int .i64 0, .int .i64 0, .slice none 0 0] ∧ wr.heap.size ≤ g) (fun _ _ => none) (by kernel_rfl) (by kernel_rfl) (by kernel_rfl) (by kernel_rfl) _ rfl ?_ ?_ ?_ ?_ ?_
        · intro ix vals v w1 hi hr k hk
          match ix, hr, hk with
          | 0, _, hk => cases hk
          | 1, _, hk => cases hk
          | 2, _, hk => cases hk
          | 3, _, hk => cases hk
          | 4, _, hk => cases hk
          | 5, _, hk => cases hk
          | 6, _, hk => cases hk
          | 7, _, hk => cases hk
          | 8, _, hk => cases hk
          | 9, _, hk => cases hk
          | 10, _, hk => cases hk
          | 11, _, hk => cases hk
          | 12, _, hk => cases hk
          | 13, _, hk => cases hk
          | 14, _, hk => cases hk
          | 15, _, hk => cases hk
          | 16, _, hk => cases hk
          | (kx + 17), _, hk => cases hk
        · intro ix vals v w1 w2 hi hr hx
          match ix, hr with
          | 0, hr => exact hr
          | 1, hr => exact hr
          | 2, hr => exact hr
          | 3, hr => exact hr
          | 4, hr => exact hr
          | 5, hr => exact hr
          | 6, hr => exact hr
          | 7, hr => exact hr
          | 8, hr => exact hr
          | 9, hr => exact hr
          | 10, hr => exact hr
          | 11, hr => exact hr
          | 12, hr => exact hr
          | 13, hr => obtain ⟨A, c, h1, h2⟩ := hr; exact ⟨A, c, h1, own_ext h2 hx⟩
          | 14, hr => obtain ⟨A, c, h1, h2⟩ := hr; exact ⟨A, c, h1, own_ext h2 hx⟩
          | 15, hr => obtain ⟨A, c, h1, h2⟩ := hr; exact ⟨A, c, h1, own_ext h2 hx⟩
          | 16, hr => exact hr
          | (kx + 17), hr => obtain ⟨g, h1, h2, h3⟩ := hr; exact ⟨g, h1, h2.ext hx, h3⟩
        · intro ix vals vals_ v w1 hi hv hr
          exact hr
        · refine ⟨?_, ?_, ?_, ?_, ?_, ?_, ?_, ?_, ?_, ?_, ?_, ?_, ?_, ?_, ?_, ?_, ?_, ?_, trivial⟩
          · intro vals w1 hx hd ha
            refine plain1 (fun _ => rfl) ?_
            clear hd ha
            simp only [Lf]
            go_wp2
            exact ⟨rfl, Ext.refl _, rfl⟩
          · intro vals w1 hx hd ha
            refine plain1 (fun _ => rfl) ?_
            clear hd ha
            simp only [Lf, dstAt, Act.put, List.getElem?_toArray, List.getElem?_cons_zero, Option.bind_some, List.setIfInBounds_toArray, List.set_cons_zero, List.set_cons_succ]
            go_wp2
            exact ⟨rfl, Ext.refl _, rfl⟩
          · intro vals w1 hx hd ha
            refine plain1 (fun _ => rfl) ?_
            clear hd ha
            simp only [Lf, dstAt, Act.put, List.getElem?_toArray, List.getElem?_cons_zero, List.getElem?_cons_succ, Option.bind_some, List.setIfInBounds_toArray, List.set_cons_zero, List.set_cons_succ]
            go_wp2
            exact ⟨rfl, Ext.refl _, rfl⟩
          · intro vals w1 hx hd ha
            refine plain1 (fun _ => rfl) ?_
            clear hd ha
            simp only [Lf, dstAt, Act.put, List.getElem?_toArray, List.getElem?_cons_zero, List.getElem?_cons_succ, Option.bind_some, List.setIfInBounds_toArray, List.set_cons_zero, List.set_cons_succ]
            go_wp2
            exact ⟨rfl, Ext.refl _, rfl⟩
          · intro vals w1 hx hd ha
            have e2 : vals 2 = .slice (some ⟨b, ob, none⟩) n c := hd 2 (by decide)
            have e3 : vals 3 = .int .i64 (k : Int) := hd 3 (by decide)
            refine plain1 (fun _ => rfl) ?_
            clear hd ha
            simp only [Lf, dstAt, Act.put, List.getElem?_toArray, List.getElem?_cons_zero, List.getElem?_cons_succ, Option.bind_some, List.setIfInBounds_toArray, List.set_cons_zero, List.set_cons_succ]
            simp only [e2, e3]
            clear e2 e3
            go_wp2
            exact ⟨rfl, Ext.refl _, rfl⟩
          · intro vals w1 hx hd ha
            have e4 : vals 4 = .pointer (some ⟨b, ob + k, none⟩) := hd 4 (by decide)
            refine plain1 (fun _ => rfl) ?_
            clear hd ha
            simp only [Lf, dstAt, Act.put, List.getElem?_toArray, List.getElem?_cons_zero, List.getElem?_cons_succ, Option.bind_some, List.setIfInBounds_toArray, List.set_cons_zero, List.set_cons_succ]
            simp only [e4]
            clear e4
            have c0 := ext_cell hx c0
            go_wp2
            exact ⟨rfl, Ext.refl _, rfl⟩
          · intro vals w1 hx hd ha
            refine plain1 (fun _ => rfl) ?_
            clear hd ha
            simp only [Lf, dstAt, Act.put, List.getElem?_toArray, List.getElem?_cons_zero, List.getElem?_cons_succ, Option.bind_some, List.setIfInBounds_toArray, List.set_cons_zero, List.set_cons_succ]
            go_wp2
            exact ⟨rfl, Ext.refl _, rfl⟩
          · intro vals w1 hx hd ha
            refine plain1 (fun _ => rfl) ?_
            clear hd ha
            simp only [Lf, dstAt, Act.put, List.getElem?_toArray, List.getElem?_cons_zero, List.getElem?_cons_succ, Option.bind_some, List.setIfInBounds_toArray, List.set_cons_zero, List.set_cons_succ]
            go_wp2
            exact ⟨rfl, Ext.refl _, rfl⟩
          · intro vals w1 hx hd ha
            have e6 : vals 6 = .slice (some ⟨b, ob, none⟩) n c := hd 6 (by decide)
            have e7 : vals 7 = .int .i64 (k : Int) := hd 7 (by decide)
            refine plain1 (fun _ => rfl) ?_
            clear hd ha
            simp only [Lf, dstAt, Act.put, List.getElem?_toArray, List.getElem?_cons_zero, List.getElem?_cons_succ, Option.bind_some, List.setIfInBounds_toArray, List.set_cons_zero, List.set_cons_succ]
            simp only [e6, e7]
            clear e6 e7
            go_wp2
            exact ⟨rfl, Ext.refl _, rfl⟩
          · intro vals w1 hx hd ha
            have e8 : vals 8 = .pointer (some ⟨b, ob + k, none⟩) := hd 8 (by decide)
            refine plain1 (fun _ => rfl) ?_
            clear hd ha
            simp only [Lf, dstAt, Act.put, List.getElem?_toArray, List.getElem?_cons_zero, List.getElem?_cons_succ, Option.bind_some, List.setIfInBounds_toArray, List.set_cons_zero, List.set_cons_succ]
            simp only [e8]
            clear e8
            have c0 := ext_cell hx c0
            go_wp2
            exact ⟨rfl, Ext.refl _, rfl⟩
          · intro vals w1 hx hd ha
            have e9 : vals 9 = .slice xa xn xc := hd 9 (by decide)
            refine plain1 (fun _ => rfl) ?_
            clear hd ha
            simp only [Lf, dstAt, Act.put, List.getElem?_toArray, List.getElem?_cons_zero, List.getElem?_cons_succ, Option.bind_some, List.setIfInBounds_toArray, List.set_cons_zero, List.set_cons_succ]
            simp only [e9]
            clear e9
            go_wp2
            exact ⟨rfl, Ext.refl _, rfl⟩
          · intro vals w1 hx hd ha
            have e10 : vals 10 = .int .i64 (xn : Int) := hd 10 (by decide)
            refine plain1 (fun _ => rfl) ?_
            clear hd ha
            simp only [Lf, dstAt, Act.put, List.getElem?_toArray, List.getElem?_cons_zero, List.getElem?_cons_succ, Option.bind_some, List.setIfInBounds_toArray, List.set_cons_zero, List.set_cons_succ]
            simp only [e10]
            clear e10
            go_wp2
            all_goals exact ⟨rfl, Ext.refl _, by show Value.int _ _ = Value.int _ _; congr 1; have := HM8.out; omega⟩
          · intro vals w1 hx hd ha
            have e5 : vals 5 = .slice xa xn xc := hd 5 (by decide)
            have e11 : vals 11 = .int .i64 (m8 : Int) := hd 11 (by decide)
            refine plain1 (fun _ => rfl) ?_
            clear hd ha
            simp only [Lf, dstAt, Act.put, List.getElem?_toArray, List.getElem?_cons_zero, List.getElem?_cons_succ, Option.bind_some, List.setIfInBounds_toArray, List.set_cons_zero, List.set_cons_succ]
            simp only [e5]
            simp only [e11]
            clear e5 e11
            rcases xa with _ | ⟨bx, ox, sp⟩
            · have h0 := hxs rfl; have h1 : m8 = 0 := (by omega); have h2 := HC0.out rfl; subst h0 h1 h2; go_wp2; exact ⟨rfl, Ext.refl _, rfl⟩
            · go_wp2; exact ⟨rfl, Ext.refl _, rfl⟩
          · intro vals w1 hx hd ha
            have e0 : vals 0 = .int .i64 (k : Int) := hd 0 (by decide)
            have e1 : vals 1 = .slice PA pn pc := hd 1 (by decide)
            have e12 : vals 12 = .slice xa m8 xc := hd 12 (by decide)
            refine plain1 (fun _ => rfl) ?_
            clear hd ha
            simp only [Lf, dstAt, Act.put, List.getElem?_toArray, List.getElem?_cons_zero, List.getElem?_cons_succ, Option.bind_some, List.setIfInBounds_toArray, List.set_cons_zero, List.set_cons_succ]
            simp only [e0]
            simp only [e1]
            simp only [e12]
            clear e0 e1 e12
            have hz := Below.size hx.undrew
            go_wp2_with fail
            refine (HD.out.1 w1 (Ext.trans hxo hx.undrew)).mono ?_
            rintro e w2 ⟨A, c, rfl, hown, hb2⟩
            have hown := Lib.hid (own_base hown hz)
            go_wp2
            exact ⟨rfl, hb2, A, c, rfl, hown.out⟩
          · intro vals w1 hx hd ha
            have r13 : (fun v w1 => ∃ A c, v = .tuple #[.agg #[.int .i64 (k : Int), .int .i64 0, .int .i64 0, .int .i64 0, .int .i64 0, .int .i64 0, .int .i64 0, .int .i64 1, .slice A sl.length c], .bool ok] ∧ OwnS w1 wr.heap.size (.slice A sl.length c) sl) (vals 13) w1 := hd 13 (by decide)
            dsimp only at r13
            refine plain1 (fun _ => rfl) ?_
            clear hd ha
            simp only [Lf, dstAt, Act.put, List.getElem?_toArray, List.getElem?_cons_zero, List.getElem?_cons_succ, Option.bind_some, List.setIfInBounds_toArray, List.set_cons_zero, List.set_cons_succ]
            obtain ⟨A, c, e_13, ho⟩ := r13
            rw [e_13]
            have ho := Lib.hid ho
            go_wp2
            exact ⟨rfl, Ext.refl _, A, c, rfl, ho.out⟩
          · intro vals w1 hx hd ha
            have r14 : (fun v w1 => ∃ A c, v = .tuple #[.agg #[.int .i64 (k : Int), .int .i64 0, .int .i64 0, .int .i64 0, .int .i64 0, .int .i64 0, .int .i64 0, .int .i64 1, .slice A sl.length c], .bool ok] ∧ OwnS w1 wr.heap.size (.slice A sl.length c) sl) (vals 14) w1 := hd 14 (by decide)
            dsimp only at r14
            refine plain1 (fun _ => rfl) ?_
            clear hd ha
            simp only [Lf, dstAt, Act.put, List.getElem?_toArray, List.getElem?_cons_zero, List.getElem?_cons_succ, Option.bind_some, List.setIfInBounds_toArray, List.set_cons_zero, List.set_cons_succ]
            obtain ⟨A, c, e_14, ho⟩ := r14
            rw [e_14]
            have ho := Lib.hid ho
            go_wp2
            exact ⟨rfl, Ext.refl _, A, c, rfl, ho.out⟩
          · intro vals w1 hx hd ha
            have r14 : (fun v w1 => ∃ A c, v = .tuple #[.agg #[.int .i64 (k : Int), .int .i64 0, .int .i64 0, .int .i64 0, .int .i64 0, .int .i64 0, .int .i64 0, .int .i64 1, .slice A sl.length c], .bool ok] ∧ OwnS w1 wr.heap.size (.slice A sl.length c) sl) (vals 14) w1 := hd 14 (by decide)
            dsimp only at r14
            refine plain1 (fun _ => rfl) ?_
            clear hd ha
            simp only [Lf, dstAt, Act.put, List.getElem?_toArray, List.getElem?_cons_zero, List.getElem?_cons_succ, Option.bind_some, List.setIfInBounds_toArray, List.set_cons_zero, List.set_cons_succ]
            obtain ⟨A, c, e_14, ho⟩ := r14
            rw [e_14]
            clear ho
            go_wp2
            exact ⟨rfl, Ext.refl _, rfl⟩
          · intro vals w1 hx hd ha
            refine plain1 (fun _ => rfl) ?_
            clear hd ha
            simp only [Lf, dstAt, Act.put, List.getElem?_toArray, List.getElem?_cons_zero, List.getElem?_cons_succ, Option.bind_some, List.setIfInBounds_toArray, List.set_cons_zero, List.set_cons_succ]
            have hz9 := Below.size hx.undrew
            go_wp2
            exact ⟨rfl, (by repeat (first | exact Below.refl _ _ | assumption | refine Below.drew ?_ | refine below_drewN ?_ _ | refine bl_alloc ?_ _ | refine Below.setCell ?_ (by first | (simp; done) | omega | (simp; omega)) _ | refine bl_then ?_ (by assumption))), _, rfl, Blk.new _ _ _, hz9⟩
        intro vals W5 hy hf _
        obtain ⟨A7, c7, v15, hos⟩ : ∃ A c, vals 15 = .agg #[.int .i64 (k : Int), .int .i64 0, .int .i64 0, .int .i64 0, .int .i64 0, .int .i64 0, .int .i64 0, .int .i64 1, .slice A sl.length c] ∧ OwnS W5 wr.heap.size (.slice A sl.length c) sl := hf 15 (by omega)
        have v16 : vals 16 = .bool ok := hf 16 (by omega)
        obtain ⟨g7, v17, jf, hg7⟩ : ∃ g, vals 17 = .pointer (some ⟨g, 0, none⟩) ∧ Blk W5 g 32 #[.int .i64 0, .int .i64 0, .int .i64 0, .int .i64 0, .int .i64 0, .int .i64 0, .int .i64 0, .int .i64 0, .slice none 0 0] ∧ wr.heap.size ≤ g := hf 17 (by omega)
        have hy := hy.undrew
        have jb := jf.row #[.int .i64 (k : Int), .int .i64 0, .int .i64 0, .int .i64 0, .int .i64 0, .int .i64 0, .int .i64 0, .int .i64 1, .slice A7 sl.length c7]
        have hone := (One.refl g7 W5).row #[.int .i64 (k : Int), .int .i64 0, .int .i64 0, .int .i64 0, .int .i64 0, .int .i64 0, .int .i64 0, .int .i64 1, .slice A7 sl.length c7]
        have hxr := hone.ext hy hg7
        have HOS := Lib.hid (hone.own hos jf (by decide))
        have HJF := Lib.hid jf
        have hws := Below.size hxo
        clear hf hy hos jf hone c0
        simp only [Lf, dstAt, Act.put, List.getElem?_toArray, List.getElem?_cons_zero, List.getElem?_cons_succ, Option.bind_some, List.setIfInBounds_toArray, List.set_cons_zero, List.set_cons_succ]
        rw [v15, v16, v17]
        clear v15 v16 v17
        refine wpList_store_row rfl _ _ _ rfl g7 #[.int .i64 (k : Int), .int .i64 0, .int .i64 0, .int .i64 0, .int .i64 0, .int .i64 0, .int .i64 0, .int .i64 1, .slice A7 sl.length c7] rfl rfl 32 _ HJF.out opt_size rfl (by simp [Value.oneCell']) ?_
        go_wp2_with fail
        refine Qn_of ?_
        refine tail1 19 _ (by kernel_rfl) (by kernel_rfl) rfl ?_
        generalize W5.setRow g7 #[.int .i64 (k : Int), .int .i64 0, .int .i64 0, .int .i64 0, .int .i64 0, .int .i64 0, .int .i64 0, .int .i64 1, .slice A7 sl.length c7] = W6 at jb HOS hxr ⊢
        clear HJF
        rcases HD.out.2 with ⟨hp0, hsl, hokf⟩ | ⟨hp0, hsl, hokt⟩
        · subst hokf
          have HS2 : Hid (os.map Opt.p = (if pn = 0 then [] else optsP ps ((rs.map (·.l)).take (k + 1)))) := Lib.hid (by have h := HS.out; rw [if_pos hp0] at h ⊢; exact h)
          have HO6 := Lib.hid (HO.out.ext hxr)
          have hx6 := Ext.trans hxo hxr
          clear HD hsl hp0 HS HO jb HOS hxr
          go_wp2
          go_roundw
          case rel => exact ⟨k + 1, os, by omega, by omega, by go_num, HS2, HO6, by omega, hx6⟩
          case measure => simp [intOf]; omega
        · subst hokt
          have HS2 : Hid ((os ++ [(⟨k, 0, 0, 0, 0, 0, 0, 1, A7, sl.length, c7, sl⟩ : Opt)]).map Opt.p = (if pn = 0 then [] else optsP ps ((rs.map (·.l)).take (k + 1)))) := Lib.hid (by
            have h := HS.out
            rw [if_neg hp0] at h ⊢
            rw [HSTEP.out, List.map_append, h, ← hsl]
            rfl)
          have hx6 := Ext.trans hxo hxr
          have d0 : W6.cell? ⟨g7, 0, none⟩ = some (.int .i64 (k : Int)) := jb.cell 0
          have d1 : W6.cell? ⟨g7, 1, none⟩ = some (.int .i64 0) := jb.cell 1
          have d2 : W6.cell? ⟨g7, 2, none⟩ = some (.int .i64 0) := jb.cell 2
          have d3 : W6.cell? ⟨g7, 3, none⟩ = some (.int .i64 0) := jb.cell 3
          have d4 : W6.cell? ⟨g7, 4, none⟩ = some (.int .i64 0) := jb.cell 4
          have d5 : W6.cell? ⟨g7, 5, none⟩ = some (.int .i64 0) := jb.cell 5
          have d6 : W6.cell? ⟨g7, 6, none⟩ = some (.int .i64 0) := jb.cell 6
          have d7 : W6.cell? ⟨g7, 7, none⟩ = some (.int .i64 1) := jb.cell 7
          have d8 : W6.cell? ⟨g7, 8, none⟩ = some (.slice A7 sl.length c7) := jb.cell 8
          have hxa : Ext W6 (W6.alloc (.cells #[.int .i64 (k : Int), .int .i64 0, .int .i64 0, .int .i64 0, .int .i64 0, .int .i64 0, .int .i64 0, .int .i64 1, .slice A7 sl.length c7] 32)) := bl_alloc (Below.refl _ _) _
          have hxw := Ext.trans hx6 hxa
          obtain ⟨v8, W8, hrun, hg8, ho8⟩ := opt_snoc 36 os (.slice A3 os.length c3) ⟨k, 0, 0, 0, 0, 0, 0, 1, A7, sl.length, c7, sl⟩ w.heap.size W6.heap.size (Blk.new _ _ _) ((HO.out.ext hxr).ext hxa) rfl (own_ext (own_base HOS.out hws) hxa) (by omega) (Below.size hxw)
          have hx8 : Ext w W8 := hxw.grown hg8 (Below.size hxw) (fun q e => (World.ownsRow.lt HO.out.1 q e).1)
          have HO8 := Lib.hid ho8
          have HRUN := Lib.hid hrun
          clear HD hsl hp0 HS HO jb HOS hxr hrun hg8 ho8 hxw hxa hx6
          go_wp2_with (refine wpList_append_run_ rfl _ _ _ rfl rfl rfl HRUN.out ?_)
          go_roundw
          case rel => exact ⟨k + 1, _, by omega, by omega, by go_num, HS2, HO8, by simp; omega, hx8⟩
          case measure => simp [intOf]; omega
      · obtain rfl : k = 8 := by omega
        have h12 : (8 : Int) < (n : Int) := by omega
        have HF : Hid (os.map Opt.p = fin) := Lib.hid (by
          rw [HS.out, HFIN.out]
          unfold optsP
          rw [List.take_take, show min 8 8 = 8 by omega])
        clear HS HFIN
        go_wp2
        go_ret
        exact ⟨_, os, rfl, HO.out, HF.out, hxo⟩
    · have HF : Hid (os.map Opt.p = fin) := Lib.hid (by
        rw [HS.out, HFIN.out, List.take_of_length_le (by rw [List.length_map, HR.out.out.len]; omega)])
      clear HS HFIN
      go_wp2
      go_ret
      exact ⟨_, os, rfl, HO.out, HF.out, hxo⟩
end Go.Proofs.Ytmlabgmigakcbaa
