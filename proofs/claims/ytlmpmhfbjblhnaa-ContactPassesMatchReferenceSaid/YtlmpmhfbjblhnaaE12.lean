/- ContactPassesMatchReference: the walk (printed by contact_e12.py). -/
import Derived.Test.YtlmpmhfbjblhnaaQ0
import Derived.Test.YtlmpmhfbjblhnaaD1
import Derived.Deep.CutRange
namespace Go.Proofs.Ytlmpmhfbjblhnaa
open Go.RowKit

theorem stn_oneP (x : Stn) : (stnCells x).toArray.all (·.oneCell') = true := by simp [stnCells, Value.oneCell']
/-- Onto an empty row. -/
theorem run_fresh {w : World} {t e ty : TypeId} {i : TypeInfo} {z : Value} {s bytes : Nat} (ht : Try.prog.underlying t = some (.slice e)) (hi : Try.prog.info? e = some i) (hz : i.zero = some z) (hsize : i.size = s) (hby : i.bytes = bytes) (hzs : z.cells.size = s) (hsz : 0 < s)
    (g b : Nat) (hb : b ≤ g) (hg : Blk w g e #[]) (A : Option Addr) (m c B : Nat) (xs : List Value) (hr : Reads w B s A m xs) (h63 : m ≤ maxLen) (hbytes : m * bytes ≤ 140737488355328) :
    ∃ v' w', (Builtin.append_ #[t, t] ty #[.slice (some ⟨g, 0, none⟩) 0 0, .slice A m c]).run Try.prog w = .ok v' w' ∧ Ext w w' ∧ w'.ownsRow b e s v' m xs := by
  rcases Nat.eq_zero_or_pos m with h0 | h0
  · subst h0
    have hx : xs = [] := List.eq_nil_of_length_eq_zero (by simpa using hr.1)
    subst hx
    exact ⟨_, _, run_append_none w t ty e i ht hi ⟨g, 0, none⟩ 0 0 (Nat.le_refl _) A c, Ext.refl _, by simp, .inr ⟨g, 0, #[], rfl, hb, hg, Nat.le_refl _, Nat.zero_le _, by simp, by simp⟩⟩
  · obtain ⟨b', o, rfl, _, hc⟩ := hr.2 h0
    have hgl := hg.lt
    obtain ⟨v', w', h1, h2, h3⟩ := run_append_arg_grows (P := Try.prog) (w := w) t ty e i z s bytes ht hi hz hsize hby hzs hsz ⟨g, 0, none⟩ 0 0 [] (by simp) (by simp) ⟨b', o, none⟩ m c xs hr.1 (fun j u hu => by rw [Addr.add_lit]; exact hc j u hu) (by omega) (by rw [Nat.zero_add]; exact h63) (by rw [Nat.zero_add]; exact hbytes)
    rw [Nat.zero_add, List.nil_append] at h2
    exact ⟨v', w', h1, ⟨h3.os, h3.tape, h3.output, h3.size, fun k hk => h3.block k hk (by simp)⟩, own_base h2 (by omega)⟩
/-- A row of one's own, shut. -/
def OwnS (W : World) (b : Nat) (t : TypeId) (s : Nat) (v : Value) (n : Nat) (xs : List Value) : Prop := W.ownsRow b t s v n xs
theorem OwnS.ext {W W' : World} {b : Nat} {t : TypeId} {s : Nat} {v : Value} {n : Nat} {xs : List Value} (h : OwnS W b t s v n xs) (hx : Ext W W') : OwnS W' b t s v n xs := own_ext h hx
/-- A cell of an older block changes. -/
theorem own_far {w : World} {base : Nat} {e : TypeId} {size : Nat} {v : Value} {n : Nat} {xs : List Value} (h : w.ownsRow base e size v n xs) {p : Addr} (hp : p.block < base) (u : Value) : (w.setCell p u).ownsRow base e size v n xs := by
  refine ⟨h.1, ?_⟩
  rcases h.2 with hn | ⟨g, cap, cur, rfl, hb, hgg, r⟩
  · exact .inl hn
  · exact .inr ⟨g, cap, cur, rfl, hb, (Below.heap_setCell w p u g (by omega)).trans hgg, r⟩
/-- What both hand back, in one form. -/
def erOf (r : Option (List Pas)) : Int := match r with | none => 90 | some _ => 0
def lOf (r : Option (List Pas)) : List Pas := match r with | none => [] | some l => l
theorem ret_form {r : Option (List Pas)} {w w' : World} {e : Ending} (h : PassesRet r w e w') : ∃ v, e = .returned (.tuple #[v, .int .i64 (erOf r)]) ∧ w'.ownsRow w.heap.size 47 6 v (lOf r).length ((lOf r).flatMap pasCells) ∧ Ext w w' := by
  cases r with
  | none =>
    obtain ⟨rfl, h2⟩ := h
    exact ⟨_, rfl, World.ownsRow_nil _ _ _ _, h2⟩
  | some l => exact h
theorem l_le (S : List St) (T : List Stn) (u : Spl) : (lOf (passesP S T u)).length ≤ 64 := by
  unfold passesP
  split
  · split
    · rename_i h
      show (sortP _ _).length ≤ 64
      rw [len_sortQ]
      exact h
    · exact Nat.zero_le _
  · exact Nat.zero_le _
set_option maxRecDepth 100000 in
set_option maxHeartbeats 16000000 in
theorem passes_match_walk (AX AY AZ : Option Addr) (nx cx ny cy nz cz : Nat) (x : List A7) (y z : List A4) (odd : St) (stg : Stn) (fr0 lg0 sa sb : Int) (w : World) (hax : RA a7Cells 7 w w.heap.size AX nx cx x) (hay : RA a4Cells 4 w w.heap.size AY ny cy y) (haz : RA a4Cells 4 w w.heap.size AZ nz cz z) (okx : ∀ a ∈ x, a.ok) (oky : ∀ a ∈ y, a.ok) (okz : ∀ a ∈ z, a.ok) (bf : I64ok fr0) (bl : I64ok lg0) :
    Calls Try.prog 4 #[.slice AX nx cx, .slice AY ny cy, .slice AZ nz cz, .agg (satCells odd).toArray, .agg (stnCells stg).toArray, .int .i64 fr0, .int .i64 lg0, .agg #[.int .i64 sa, .int .i64 sb]] w (Tru w) := by
  have hm1 : (satsP x y).length ≤ 3 := by rw [satsP, satsK_len]; omega
  have hm2 : (stnsP z).length ≤ 3 := by rw [stnsP, stnsK_len]; omega
  have HSATS : Hid (∀ W, Ext w W → Calls Try.prog 11 #[.slice AX nx cx, .slice AY ny cy] W (ListRet satCells 21 27 (satsP x y) W)) := Lib.hid (fun W hW => sats_any AX AY nx cx ny cy x y W ((hax.below hW).more hW.size) ((hay.below hW).more hW.size) okx oky)
  have HSTNS : Hid (∀ W, Ext w W → Calls Try.prog 12 #[.slice AZ nz cz] W (ListRet stnCells 6 31 (stnsP z) W)) := Lib.hid (fun W hW => stations_any AZ nz cz z W ((haz.below hW).more hW.size) okz)
  generalize satsP x y = SL at hm1 HSATS
  generalize stnsP z = TL at hm2 HSTNS
  clear hax hay haz okx oky okz
  obtain ⟨ms, hms⟩ : ∃ n, n = SL.length := ⟨_, rfl⟩
  obtain ⟨mt, hmt⟩ : ∃ n, n = TL.length := ⟨_, rfl⟩
  rw [← hms] at hm1
  rw [← hmt] at hm2
  have HMS := Lib.hid hms
  have HMT := Lib.hid hmt
  clear hms hmt
  have P1 := fun w => lpick_any fr0 999300 w bf.1 bf.2 (by omega) (by omega)
  have q1 := pickI_bd fr0 999300 (by omega)
  generalize pickI fr0 999300 = k1 at P1 q1
  obtain ⟨q1a, q1b⟩ := q1
  have HP1 := Lib.hid P1
  clear P1
  have P2 := fun w => lpick_any lg0 600 w bl.1 bl.2 (by omega) (by omega)
  have q2 := pickI_bd lg0 600 (by omega)
  generalize pickI lg0 600 = k2 at P2 q2
  obtain ⟨q2a, q2b⟩ := q2
  have HP2 := Lib.hid P2
  clear P2
  obtain ⟨a, ha⟩ : ∃ a, a = k1 := ⟨_, rfl⟩
  subst ha
  obtain ⟨b, hb⟩ : ∃ b, b = a + 1 + k2 := ⟨_, rfl⟩
  have HBB := Lib.hid hb
  have ab2 : b ≤ a + 600 := by omega
  clear hb
  obtain ⟨SX, hSX⟩ : ∃ X, (satCells odd).toArray = X := ⟨_, rfl⟩
  have HOSX : Hid (SX.all (·.oneCell') = true) := Lib.hid (by rw [← hSX]; exact sat_one _)
  have HZSX : Hid (SX.size = 21) := Lib.hid (by rw [← hSX]; rfl)
  have HLSX : Hid (SX.toList = satCells odd) := Lib.hid (by rw [← hSX])
  obtain ⟨d0, d1, d2, d3, d4, d5, d6, d7, d8, d9, d10, d11, d12, d13, d14, d15, d16, d17, d18, d19, d20, hod⟩ : ∃ d0 d1 d2 d3 d4 d5 d6 d7 d8 d9 d10 d11 d12 d13 d14 d15 d16 d17 d18 d19 d20, odd = ⟨d0, d1, ⟨d2, d3, d4, d5, d6, d7, d8⟩, d9, d10, d11, d12, d13, d14, d15, d16, d17, d18, d19, d20⟩ := ⟨_, _, _, _, _, _, _, _, _, _, _, _, _, _, _, _, _, _, _, _, _, rfl⟩
  have hXX : #[.int .i64 d0, .int .i64 d1, .int .i64 d2, .int .i64 d3, .int .i64 d4, .int .i64 d5, .int .i64 d6, .int .i64 d7, .int .i64 d8, .int .i64 d9, .int .i64 d10, .int .i64 d11, .int .i64 d12, .int .i64 d13, .int .i64 d14, .int .i64 d15, .int .i64 d16, .int .i64 d17, .int .i64 d18, .int .i64 d19, .int .i64 d20] = SX := by rw [← hSX, hod]; rfl
  rw [hSX, ← hXX]
  clear hod hSX
  obtain ⟨TX, hTX⟩ : ∃ X, (stnCells stg).toArray = X := ⟨_, rfl⟩
  have HOTX : Hid (TX.all (·.oneCell') = true) := Lib.hid (by rw [← hTX]; exact stn_oneP _)
  have HZTX : Hid (TX.size = 6) := Lib.hid (by rw [← hTX]; rfl)
  have HLTX : Hid (TX.toList = stnCells stg) := Lib.hid (by rw [← hTX])
  obtain ⟨s0, s1, s2, s3, s4, s5, hod⟩ : ∃ s0 s1 s2 s3 s4 s5, stg = ⟨s0, ⟨s1, s2⟩, s3, s4, s5⟩ := ⟨_, _, _, _, _, _, rfl⟩
  have hTT : #[.int .i64 s0, .int .i64 s1, .int .i64 s2, .int .i64 s3, .int .i64 s4, .int .i64 s5] = TX := by rw [← hTX, hod]; rfl
  rw [hTX, ← hTT]
  clear hod hTX
  obtain ⟨L, hL⟩ : ∃ l, l = SL ++ [odd] := ⟨_, rfl⟩
  have HLL := Lib.hid hL
  obtain ⟨TS, hTS⟩ : ∃ l, l = TL ++ [stg] := ⟨_, rfl⟩
  have HTS := Lib.hid hTS
  clear hL hTS
  go_enter Try.func4, Try.ntmps4
  go_upto_region 1 with (fail)
  rw [hXX, hTT]
  clear hXX hTT
  clear d0 d1 d2 d3 d4 d5 d6 d7 d8 d9 d10 d11 d12 d13 d14 d15 d16 d17 d18 d19 d20 s0 s1 s2 s3 s4 s5
  obtain ⟨g11, hg11⟩ : ∃ g, g = w.heap.size := ⟨_, rfl⟩
  obtain ⟨g12, hg12⟩ : ∃ g, g = w.heap.size + 1 := ⟨_, rfl⟩
  obtain ⟨g15, hg15⟩ : ∃ g, g = w.heap.size + 2 := ⟨_, rfl⟩
  have J11 : Blk (((w.alloc (.cells SX 27)).alloc (.cells TX 31)).alloc (.cells #[.int .i64 sa, .int .i64 sb] 34)) g11 27 SX := ((Blk.new_at _ _ _ hg11.symm).alloc _).alloc _
  have J12 : Blk (((w.alloc (.cells SX 27)).alloc (.cells TX 31)).alloc (.cells #[.int .i64 sa, .int .i64 sb] 34)) g12 31 TX := (Blk.new_at _ _ _ (by simp [hg12])).alloc _
  have J15 : Blk (((w.alloc (.cells SX 27)).alloc (.cells TX 31)).alloc (.cells #[.int .i64 sa, .int .i64 sb] 34)) g15 34 #[.int .i64 sa, .int .i64 sb] := Blk.new_at _ _ _ (by simp [hg15])
  have hB : Ext w (((w.alloc (.cells SX 27)).alloc (.cells TX 31)).alloc (.cells #[.int .i64 sa, .int .i64 sb] 34)) := bl_alloc (bl_alloc (bl_alloc (Below.refl _ _) _) _) _
  have n15 : w.heap.size ≤ g15 := by omega
  have n11 : g11 ≠ g15 := by omega
  have n12 : g12 ≠ g15 := by omega
  rw [← hg15, ← hg12, ← hg11]
  generalize ((w.alloc (.cells SX 27)).alloc (.cells TX 31)).alloc (.cells #[.int .i64 sa, .int .i64 sb] 34) = W0 at J11 J12 J15 hB ⊢
  clear hg11 hg12 hg15
  go_wp2_with (fail)
  refine (sane_any _).mono ?_
  rintro e W1 ⟨rfl, hx⟩
  have J11 := J11.ext hx
  have J12 := J12.ext hx
  have J15 := J15.ext hx
  have hB := Ext.trans hB hx
  clear hx
  go_wp2_with (fail)
  obtain ⟨bHRS, hbHRS⟩ : ∃ n, n = W1.heap.size := ⟨_, rfl⟩
  have lHRS : g15 < bHRS := by have := J15.lt; omega
  refine (HSATS.out _ hB).mono ?_
  rintro e W2 ⟨v17, rfl, hown, hx⟩
  rw [← hbHRS] at hown
  clear hbHRS
  have J11 := J11.ext hx
  have J12 := J12.ext hx
  have J15 := J15.ext hx
  have hB := Ext.trans hB hx
  clear hx
  rw [← HMS.out] at hown
  obtain ⟨AHRS, cHRS, hv, _, _⟩ := own_slice hown
  subst hv
  have HRS := Lib.hid (RA.of_own (cells := satCells) hown HMS.out.symm (by omega))
  have OHRS := Lib.hid hown
  clear hown
  go_wp2_with (fail)
  obtain ⟨bHRT, hbHRT⟩ : ∃ n, n = W2.heap.size := ⟨_, rfl⟩
  have lHRT : g15 < bHRT := by have := J15.lt; omega
  refine (HSTNS.out _ hB).mono ?_
  rintro e W3 ⟨v18, rfl, hown, hx⟩
  rw [← hbHRT] at hown
  clear hbHRT
  have J11 := J11.ext hx
  have J12 := J12.ext hx
  have J15 := J15.ext hx
  have hB := Ext.trans hB hx
  have HRS := Lib.hid ((HRS.out.below hx).more (Below.size hx))
  have OHRS := Lib.hid (own_ext OHRS.out hx)
  clear hx
  rw [← HMT.out] at hown
  obtain ⟨AHRT, cHRT, hv, _, _⟩ := own_slice hown
  subst hv
  have HRT := Lib.hid (RA.of_own (cells := stnCells) hown HMT.out.symm (by omega))
  have OHRT := Lib.hid hown
  clear hown
  clear HSATS HSTNS
  go_upto_region 5 with (fail)
  refine wp_region_obl 5 (fun ix vals v w1 => match ix with | 0 => ∃ g, v = .slice (some ⟨g, 0, none⟩) 0 0 ∧ W3.heap.size ≤ g ∧ Blk w1 g 27 #[] | 1 => v = .slice AHRS ms cHRS | 2 => OwnS w1 W3.heap.size 27 21 v ms (SL.flatMap satCells) | 3 => v = .agg SX | _ => ∃ gx, v = .slice (some ⟨gx, 0, none⟩) 1 1 ∧ W3.heap.size ≤ gx ∧ Blk w1 gx 27 SX) (by kernel_rfl) (by kernel_rfl) ?_ ?_ ?_ ?_
  · intro ix vals v w1 w2 hi hr hx
    match ix, hr with
    | 0, hr => obtain ⟨g, h1, h2, h3⟩ := hr; exact ⟨g, h1, h2, h3.ext hx⟩
    | 1, hr => exact hr
    | 2, hr => exact hr.ext hx
    | 3, hr => exact hr
    | (kx + 4), hr => obtain ⟨gx, h1, h2, h3⟩ := hr; exact ⟨gx, h1, h2, h3.ext hx⟩
  · intro ix vals vals_ v w1 hi hv hr
    exact hr
  · refine obls_ofT [some 38, some 39, some 40, some 41, some 42, some 43, some 19] [(17, .slice AHRS ms cHRS), (11, .pointer (some ⟨g11, 0, none⟩))] 138 (by kernel_rfl) (by kernel_rfl) ⟨by kernel_rfl, by kernel_rfl, trivial⟩ ?_
    refine ⟨?_, ?_, ?_, ?_, ?_, trivial⟩
    · intro vals w1 hx hd
      refine .run [] { dst := some 0, op := Go.Op.buildSlice 36 0 #[], type := 36, pos := "", after := #[], guard := none } 38 trivial (by kernel_rfl) (by kernel_rfl) (by kernel_rfl) rfl rfl rfl ?_
      clear hd
      have hz := Below.size hx.undrew
      go_wp2
      exact ⟨rfl, (by repeat (first | exact Below.refl _ _ | assumption | refine Below.drew ?_ | refine below_drewN ?_ _ | refine bl_alloc ?_ _ | refine Below.setCell ?_ (by first | (simp; done) | omega | (simp; omega)) _ | refine bl_then ?_ (by assumption))), _, rfl, by omega, Blk.new _ _ _⟩
    · intro vals w1 hx hd
      refine .run [(17, .slice AHRS ms cHRS)] { dst := some 0, op := Go.Op.move (Go.Operand.const (.slice AHRS ms cHRS)), type := 36, pos := "", after := #[], guard := none } 39 ⟨.out (by kernel_rfl) (by kernel_rfl), trivial⟩ (by kernel_rfl) (by kernel_rfl) (by kernel_rfl) rfl rfl rfl ?_
      clear hd
      go_wp2
      exact ⟨rfl, Ext.refl _, rfl⟩
    · intro vals w1 hx hd
      have r0 : (fun v w1 => ∃ g, v = .slice (some ⟨g, 0, none⟩) 0 0 ∧ W3.heap.size ≤ g ∧ Blk w1 g 27 #[]) (vals 0) w1 := hd 0 (by decide)
      dsimp only at r0
      obtain ⟨g9, e_0, hg9, jb9⟩ := r0
      have e1 : vals 1 = .slice AHRS ms cHRS := hd 1 (by decide)
      refine .run [(38, .slice (some ⟨g9, 0, none⟩) 0 0), (39, .slice AHRS ms cHRS)] { dst := some 0, op := Go.Op.call { callee := Go.Callee.builtin Go.Builtin.append, args := #[(Go.Operand.const (.slice (some ⟨g9, 0, none⟩) 0 0)), (Go.Operand.const (.slice AHRS ms cHRS))], argTypes := #[36, 36] }, type := 36, pos := "", after := #[], guard := none } 40 ⟨.inn 0 (by kernel_rfl) e_0, .inn 1 (by kernel_rfl) e1, trivial⟩ (by kernel_rfl) (by kernel_rfl) (by kernel_rfl) rfl rfl rfl ?_
      clear hd e_0 e1
      obtain ⟨i0, hi0, hz0, hz1, hz2⟩ := info_parts info_sat
      obtain ⟨v9, w9, hrun, hx9, hown⟩ := run_fresh Try.underlying36 hi0 hz0 hz1 hz2 rfl (by omega) g9 W3.heap.size hg9 jb9 _ ms _ _ _ (HRS.out.below hx.undrew).rd (by unfold maxLen; omega) (by omega)
      refine wpList_append_run_ rfl _ _ _ rfl rfl rfl hrun ?_
      clear hrun
      go_wp2
      exact ⟨rfl, hx9, hown⟩
    · intro vals w1 hx hd
      refine .run [(11, .pointer (some ⟨g11, 0, none⟩))] { dst := some 0, op := Go.Op.load 27 (Go.Operand.const (.pointer (some ⟨g11, 0, none⟩))), type := 27, pos := "", after := #[], guard := none } 41 ⟨.out (by kernel_rfl) (by kernel_rfl), trivial⟩ (by kernel_rfl) (by kernel_rfl) (by kernel_rfl) rfl rfl rfl ?_
      clear hd
      refine wpList_load_st rfl 27 _ rfl g11 0 rfl SX SX.toList (by simp) _ (Blk.range (J11.ext hx.undrew) _ rfl) Try.underlying27 rfl (by rw [Array.length_toList, HZSX.out]; exact sat_size) ?_
      go_wp2
      exact ⟨rfl, Ext.refl _, rfl⟩
    · intro vals w1 hx hd
      have e3 : vals 3 = .agg SX := hd 3 (by decide)
      refine .run [(41, .agg SX)] { dst := some 0, op := Go.Op.buildSlice 36 1 #[(0, (Go.Operand.const (.agg SX)))], type := 36, pos := "", after := #[], guard := none } 42 ⟨.inn 3 (by kernel_rfl) e3, trivial⟩ (by kernel_rfl) (by kernel_rfl) (by kernel_rfl) rfl rfl rfl ?_
      clear hd e3
      have hz := Below.size hx.undrew
      refine wpList_buildOne rfl _ _ _ rfl SX rfl Try.underlying36 21 info_sat2 HZSX.out (by omega) (by omega) ?_
      go_wp2
      exact ⟨rfl, (by repeat (first | exact Below.refl _ _ | assumption | refine Below.drew ?_ | refine below_drewN ?_ _ | refine bl_alloc ?_ _ | refine Below.setCell ?_ (by first | (simp; done) | omega | (simp; omega)) _ | refine bl_then ?_ (by assumption))), _, rfl, by omega, Blk.new _ _ _⟩
  intro vals W4 hx hf
  have hrow : W4.ownsRow W3.heap.size 27 21 (vals 2) ms (SL.flatMap satCells) := hf 2 (by omega)
  obtain ⟨A_, c_, e2, _, _⟩ := own_slice hrow
  obtain ⟨gx, e4, hgx, jx⟩ : ∃ gx, vals 4 = .slice (some ⟨gx, 0, none⟩) 1 1 ∧ W3.heap.size ≤ gx ∧ Blk W4 gx 27 SX := hf 4 (by omega)
  clear hf
  rw [e2] at hrow
  have hx := hx.undrew
  have hBs := hx.size
  obtain ⟨i0, hi0, hz0, hz1, hz2⟩ := info_parts info_sat
  obtain ⟨v2, W5, hr, hrow2, hg2, -⟩ := run_append_own (P := Try.prog) W4 W3.heap.size 36 36 27 i0 _ 21 168 Try.underlying36 hi0 hz0 hz1 hz2 rfl (by omega) _ ms _ hrow ⟨gx, 0, none⟩ 1 1 SX.toList (by rw [Array.length_toList, HZSX.out]) (by intro i u hu; rw [Addr.add_lit, Nat.zero_add, jx.cell]; simpa using hu) (List.all_eq_true.1 (by rw [Array.all_toList]; exact HOSX.out)) (by unfold maxLen; omega) (by omega) (by omega)
  have hx : Ext W3 W5 := hx.grown hg2 hBs (fun q e => (World.ownsRow.lt hrow q e).1)
  have hrow3 : W5.ownsRow W3.heap.size 27 21 v2 (ms + 1) (L.flatMap satCells) := by rw [HLL.out, List.flatMap_append]; simpa [HLSX.out] using hrow2
  obtain ⟨bHRS1, hbHRS1⟩ : ∃ n, n = W3.heap.size := ⟨_, rfl⟩
  have lHRS1 : g15 < bHRS1 := by have := J15.lt; omega
  rw [← hbHRS1] at hrow3
  clear hbHRS1
  obtain ⟨A19, cA19, hv, _, _⟩ := own_slice hrow3
  subst hv
  have OHRS1 := Lib.hid hrow3
  have HRS1 := Lib.hid (RA.of_own hrow3 (by rw [HLL.out, List.length_append, ← HMS.out]; rfl) (by omega))
  have HRUN := Lib.hid hr
  clear hr hrow hrow2 hrow3 hg2 jx hBs hgx
  refine tailF 5 _ _ 1 (by kernel_rfl) rfl ?_ (fun a w q => tail1 6 _ (by kernel_rfl) (by kernel_rfl) rfl q)
  simp only [Lf, dstAt, Act.put, List.getElem?_toArray, List.getElem?_cons_zero, List.getElem?_cons_succ, Option.bind_some, List.setIfInBounds_toArray, List.set_cons_zero, List.set_cons_succ]
  rw [e2, e4]
  clear e2 e4
  refine wpList_append_run_ rfl _ _ _ rfl rfl rfl HRUN.out ?_
  clear HRUN hi0 hz0 hz1 hz2
  have J11 := J11.ext hx
  have J12 := J12.ext hx
  have J15 := J15.ext hx
  have hB := Ext.trans hB hx
  have HRS := Lib.hid ((HRS.out.below hx).more (Below.size hx))
  have OHRS := Lib.hid (own_ext OHRS.out hx)
  have HRT := Lib.hid ((HRT.out.below hx).more (Below.size hx))
  have OHRT := Lib.hid (own_ext OHRT.out hx)
  clear hx
  clear J11
  go_upto_region 6 with (fail)
  refine wp_region_obl 5 (fun ix vals v w1 => match ix with | 0 => ∃ g, v = .slice (some ⟨g, 0, none⟩) 0 0 ∧ W5.heap.size ≤ g ∧ Blk w1 g 31 #[] | 1 => v = .slice AHRT mt cHRT | 2 => OwnS w1 W5.heap.size 31 6 v mt (TL.flatMap stnCells) | 3 => v = .agg TX | _ => ∃ gx, v = .slice (some ⟨gx, 0, none⟩) 1 1 ∧ W5.heap.size ≤ gx ∧ Blk w1 gx 31 TX) (by kernel_rfl) (by kernel_rfl) ?_ ?_ ?_ ?_
  · intro ix vals v w1 w2 hi hr hx
    match ix, hr with
    | 0, hr => obtain ⟨g, h1, h2, h3⟩ := hr; exact ⟨g, h1, h2, h3.ext hx⟩
    | 1, hr => exact hr
    | 2, hr => exact hr.ext hx
    | 3, hr => exact hr
    | (kx + 4), hr => obtain ⟨gx, h1, h2, h3⟩ := hr; exact ⟨gx, h1, h2, h3.ext hx⟩
  · intro ix vals vals_ v w1 hi hv hr
    exact hr
  · refine obls_ofT [some 44, some 45, some 46, some 47, some 48, some 49, some 20] [(18, .slice AHRT mt cHRT), (12, .pointer (some ⟨g12, 0, none⟩))] 138 (by kernel_rfl) (by kernel_rfl) ⟨by kernel_rfl, by kernel_rfl, trivial⟩ ?_
    refine ⟨?_, ?_, ?_, ?_, ?_, trivial⟩
    · intro vals w1 hx hd
      refine .run [] { dst := some 0, op := Go.Op.buildSlice 38 0 #[], type := 38, pos := "", after := #[], guard := none } 44 trivial (by kernel_rfl) (by kernel_rfl) (by kernel_rfl) rfl rfl rfl ?_
      clear hd
      have hz := Below.size hx.undrew
      go_wp2
      exact ⟨rfl, (by repeat (first | exact Below.refl _ _ | assumption | refine Below.drew ?_ | refine below_drewN ?_ _ | refine bl_alloc ?_ _ | refine Below.setCell ?_ (by first | (simp; done) | omega | (simp; omega)) _ | refine bl_then ?_ (by assumption))), _, rfl, by omega, Blk.new _ _ _⟩
    · intro vals w1 hx hd
      refine .run [(18, .slice AHRT mt cHRT)] { dst := some 0, op := Go.Op.move (Go.Operand.const (.slice AHRT mt cHRT)), type := 38, pos := "", after := #[], guard := none } 45 ⟨.out (by kernel_rfl) (by kernel_rfl), trivial⟩ (by kernel_rfl) (by kernel_rfl) (by kernel_rfl) rfl rfl rfl ?_
      clear hd
      go_wp2
      exact ⟨rfl, Ext.refl _, rfl⟩
    · intro vals w1 hx hd
      have r0 : (fun v w1 => ∃ g, v = .slice (some ⟨g, 0, none⟩) 0 0 ∧ W5.heap.size ≤ g ∧ Blk w1 g 31 #[]) (vals 0) w1 := hd 0 (by decide)
      dsimp only at r0
      obtain ⟨g9, e_0, hg9, jb9⟩ := r0
      have e1 : vals 1 = .slice AHRT mt cHRT := hd 1 (by decide)
      refine .run [(44, .slice (some ⟨g9, 0, none⟩) 0 0), (45, .slice AHRT mt cHRT)] { dst := some 0, op := Go.Op.call { callee := Go.Callee.builtin Go.Builtin.append, args := #[(Go.Operand.const (.slice (some ⟨g9, 0, none⟩) 0 0)), (Go.Operand.const (.slice AHRT mt cHRT))], argTypes := #[38, 38] }, type := 38, pos := "", after := #[], guard := none } 46 ⟨.inn 0 (by kernel_rfl) e_0, .inn 1 (by kernel_rfl) e1, trivial⟩ (by kernel_rfl) (by kernel_rfl) (by kernel_rfl) rfl rfl rfl ?_
      clear hd e_0 e1
      obtain ⟨i0, hi0, hz0, hz1, hz2⟩ := info_parts info_stn
      obtain ⟨v9, w9, hrun, hx9, hown⟩ := run_fresh Try.underlying38 hi0 hz0 hz1 hz2 rfl (by omega) g9 W5.heap.size hg9 jb9 _ mt _ _ _ (HRT.out.below hx.undrew).rd (by unfold maxLen; omega) (by omega)
      refine wpList_append_run_ rfl _ _ _ rfl rfl rfl hrun ?_
      clear hrun
      go_wp2
      exact ⟨rfl, hx9, hown⟩
    · intro vals w1 hx hd
      refine .run [(12, .pointer (some ⟨g12, 0, none⟩))] { dst := some 0, op := Go.Op.load 31 (Go.Operand.const (.pointer (some ⟨g12, 0, none⟩))), type := 31, pos := "", after := #[], guard := none } 47 ⟨.out (by kernel_rfl) (by kernel_rfl), trivial⟩ (by kernel_rfl) (by kernel_rfl) (by kernel_rfl) rfl rfl rfl ?_
      clear hd
      refine wpList_load_st rfl 31 _ rfl g12 0 rfl TX TX.toList (by simp) _ (Blk.range (J12.ext hx.undrew) _ rfl) Try.underlying31 rfl (by rw [Array.length_toList, HZTX.out]; exact stn_size_) ?_
      go_wp2
      exact ⟨rfl, Ext.refl _, rfl⟩
    · intro vals w1 hx hd
      have e3 : vals 3 = .agg TX := hd 3 (by decide)
      refine .run [(47, .agg TX)] { dst := some 0, op := Go.Op.buildSlice 38 1 #[(0, (Go.Operand.const (.agg TX)))], type := 38, pos := "", after := #[], guard := none } 48 ⟨.inn 3 (by kernel_rfl) e3, trivial⟩ (by kernel_rfl) (by kernel_rfl) (by kernel_rfl) rfl rfl rfl ?_
      clear hd e3
      have hz := Below.size hx.undrew
      refine wpList_buildOne rfl _ _ _ rfl TX rfl Try.underlying38 6 info_stn2 HZTX.out (by omega) (by omega) ?_
      go_wp2
      exact ⟨rfl, (by repeat (first | exact Below.refl _ _ | assumption | refine Below.drew ?_ | refine below_drewN ?_ _ | refine bl_alloc ?_ _ | refine Below.setCell ?_ (by first | (simp; done) | omega | (simp; omega)) _ | refine bl_then ?_ (by assumption))), _, rfl, by omega, Blk.new _ _ _⟩
  intro vals W6 hx hf
  have hrow : W6.ownsRow W5.heap.size 31 6 (vals 2) mt (TL.flatMap stnCells) := hf 2 (by omega)
  obtain ⟨A_, c_, e2, _, _⟩ := own_slice hrow
  obtain ⟨gx, e4, hgx, jx⟩ : ∃ gx, vals 4 = .slice (some ⟨gx, 0, none⟩) 1 1 ∧ W5.heap.size ≤ gx ∧ Blk W6 gx 31 TX := hf 4 (by omega)
  clear hf
  rw [e2] at hrow
  have hx := hx.undrew
  have hBs := hx.size
  obtain ⟨i0, hi0, hz0, hz1, hz2⟩ := info_parts info_stn
  obtain ⟨v2, W7, hr, hrow2, hg2, -⟩ := run_append_own (P := Try.prog) W6 W5.heap.size 38 38 31 i0 _ 6 48 Try.underlying38 hi0 hz0 hz1 hz2 rfl (by omega) _ mt _ hrow ⟨gx, 0, none⟩ 1 1 TX.toList (by rw [Array.length_toList, HZTX.out]) (by intro i u hu; rw [Addr.add_lit, Nat.zero_add, jx.cell]; simpa using hu) (List.all_eq_true.1 (by rw [Array.all_toList]; exact HOTX.out)) (by unfold maxLen; omega) (by omega) (by omega)
  have hx : Ext W5 W7 := hx.grown hg2 hBs (fun q e => (World.ownsRow.lt hrow q e).1)
  have hrow3 : W7.ownsRow W5.heap.size 31 6 v2 (mt + 1) (TS.flatMap stnCells) := by rw [HTS.out, List.flatMap_append]; simpa [HLTX.out] using hrow2
  obtain ⟨bHRT1, hbHRT1⟩ : ∃ n, n = W5.heap.size := ⟨_, rfl⟩
  have lHRT1 : g15 < bHRT1 := by have := J15.lt; omega
  rw [← hbHRT1] at hrow3
  clear hbHRT1
  obtain ⟨A20, cA20, hv, _, _⟩ := own_slice hrow3
  subst hv
  have OHRT1 := Lib.hid hrow3
  have HRT1 := Lib.hid (RA.of_own hrow3 (by rw [HTS.out, List.length_append, ← HMT.out]; rfl) (by omega))
  have HRUN := Lib.hid hr
  clear hr hrow hrow2 hrow3 hg2 jx hBs hgx
  refine tailF 5 _ _ 1 (by kernel_rfl) rfl ?_ (fun a w q => tail1 6 _ (by kernel_rfl) (by kernel_rfl) rfl q)
  simp only [Lf, dstAt, Act.put, List.getElem?_toArray, List.getElem?_cons_zero, List.getElem?_cons_succ, Option.bind_some, List.setIfInBounds_toArray, List.set_cons_zero, List.set_cons_succ]
  rw [e2, e4]
  clear e2 e4
  refine wpList_append_run_ rfl _ _ _ rfl rfl rfl HRUN.out ?_
  clear HRUN hi0 hz0 hz1 hz2
  have J12 := J12.ext hx
  have J15 := J15.ext hx
  have hB := Ext.trans hB hx
  have HRS := Lib.hid ((HRS.out.below hx).more (Below.size hx))
  have OHRS := Lib.hid (own_ext OHRS.out hx)
  have HRT := Lib.hid ((HRT.out.below hx).more (Below.size hx))
  have OHRT := Lib.hid (own_ext OHRT.out hx)
  have HRS1 := Lib.hid ((HRS1.out.below hx).more (Below.size hx))
  have OHRS1 := Lib.hid (own_ext OHRS1.out hx)
  clear hx
  clear J12
  clear n11 n12 HOSX HOTX HZSX HZTX HLSX HLTX
  go_wp2_with (fail)
  refine (HP1.out _).mono ?_
  rintro e w2 ⟨rfl, rfl⟩
  go_upto_region 8 with (fail)
  clear HRS HRT HRS1 HRT1
  have OHRS_ := OHRS
  have OHRT_ := OHRT
  have OHRS1_ := OHRS1
  have OHRT1_ := OHRT1
  have hx6 : Ext W7 W7 := Ext.refl _
  have J21 : Blk (W7.alloc (.cells #[.int .i64 a, .int .i64 0] 34)) W7.heap.size 34 #[.int .i64 a, .int .i64 0] := Blk.new _ _ _
  have hx : Ext W7 (W7.alloc (.cells #[.int .i64 a, .int .i64 0] 34)) := bl_alloc (Below.refl _ _) _
  obtain ⟨g21, hg⟩ : ∃ g, g = W7.heap.size := ⟨_, rfl⟩
  have n_J15_J21 : g15 ≠ g21 := by have := J15.lt; omega
  have n6 : W7.heap.size ≤ g21 := by omega
  have n_w_J21 : w.heap.size ≤ g21 := by have := hB.size; omega
  rw [← hg] at J21 ⊢
  generalize W7.alloc (.cells #[.int .i64 a, .int .i64 0] 34) = W8 at J21 hx ⊢
  have J15 := J15.ext hx
  have hB := Ext.trans hB hx
  have OHRS := Lib.hid (own_ext OHRS.out hx)
  have OHRT := Lib.hid (own_ext OHRT.out hx)
  have OHRS1 := Lib.hid (own_ext OHRS1.out hx)
  have OHRT1 := Lib.hid (own_ext OHRT1.out hx)
  have hx6 := Ext.trans hx6 hx
  clear hx
  clear hg
  have t0 : W8.cell? ⟨g21, 0, none⟩ = some (.int .i64 a) := J21.cell 0
  have w1_ : IntKind.i64.wrap (a + 1) = a + 1 := IntWalk.i64_in _ (by omega)
  have w2_ : IntKind.i64.wrap (a + 1 + k2) = b := by rw [HBB.out]; exact IntWalk.i64_in _ (by omega)
  refine wp_region_obl 7 (fun ix vals v w1 => match ix with | 0 => v = .pointer (some ⟨g21, 0, none⟩) | 1 => v = .int .i64 a | 2 => v = .int .i64 (a + 1) | 3 => v = .int .i64 lg0 | 4 => v = .int .i64 k2 | 5 => v = .int .i64 b | _ => v = .pointer (some ⟨g21, 1, none⟩)) (by kernel_rfl) (by kernel_rfl) ?_ ?_ ?_ ?_
  · intro ix vals v w1 w2 hi hr hx
    match ix, hr with
    | 0, hr => exact hr
    | 1, hr => exact hr
    | 2, hr => exact hr
    | 3, hr => exact hr
    | 4, hr => exact hr
    | 5, hr => exact hr
    | (kx + 6), hr => exact hr
  · intro ix vals vals_ v w1 hi hv hr
    exact hr
  · refine obls_ofT [some 53, some 54, some 55, some 56, some 57, some 58, some 59, none] [(21, .pointer (some ⟨g21, 0, none⟩)), (6, .int .i64 lg0)] 138 (by kernel_rfl) (by kernel_rfl) ⟨by kernel_rfl, by kernel_rfl, trivial⟩ ?_
    refine ⟨?_, ?_, ?_, ?_, ?_, ?_, ?_, trivial⟩
    · intro vals w1 hx hd
      refine .run [(21, .pointer (some ⟨g21, 0, none⟩))] { dst := some 0, op := Go.Op.fieldAddr 34 (Go.Operand.const (.pointer (some ⟨g21, 0, none⟩))) 0, type := 0, pos := "", after := #[], guard := none } 53 ⟨.out (by kernel_rfl) (by kernel_rfl), trivial⟩ (by kernel_rfl) (by kernel_rfl) (by kernel_rfl) rfl rfl rfl ?_
      clear hd
      go_wp2
      exact ⟨rfl, Ext.refl _, rfl⟩
    · intro vals w1 hx hd
      have e0 : vals 0 = .pointer (some ⟨g21, 0, none⟩) := hd 0 (by decide)
      refine .run [(53, .pointer (some ⟨g21, 0, none⟩))] { dst := some 0, op := Go.Op.load 3 (Go.Operand.const (.pointer (some ⟨g21, 0, none⟩))), type := 3, pos := "", after := #[], guard := none } 54 ⟨.inn 0 (by kernel_rfl) e0, trivial⟩ (by kernel_rfl) (by kernel_rfl) (by kernel_rfl) rfl rfl rfl ?_
      clear hd e0
      have t0 := ext_cell hx t0
      go_wp2
      exact ⟨rfl, Ext.refl _, rfl⟩
    · intro vals w1 hx hd
      have e1 : vals 1 = .int .i64 a := hd 1 (by decide)
      refine .run [(54, .int .i64 a)] { dst := some 0, op := Go.Op.binOp Go.BinOp.add 3 (Go.Operand.const (.int .i64 a)) (Go.Operand.const (Go.Value.int Go.IntKind.i64 1)) 3, type := 3, pos := "", after := #[], guard := none } 55 ⟨.inn 1 (by kernel_rfl) e1, trivial⟩ (by kernel_rfl) (by kernel_rfl) (by kernel_rfl) rfl rfl rfl ?_
      clear hd e1
      go_wp2
      exact ⟨rfl, Ext.refl _, rfl⟩
    · intro vals w1 hx hd
      refine .run [(6, .int .i64 lg0)] { dst := some 0, op := Go.Op.move (Go.Operand.const (.int .i64 lg0)), type := 3, pos := "", after := #[], guard := none } 56 ⟨.out (by kernel_rfl) (by kernel_rfl), trivial⟩ (by kernel_rfl) (by kernel_rfl) (by kernel_rfl) rfl rfl rfl ?_
      clear hd
      go_wp2
      exact ⟨rfl, Ext.refl _, rfl⟩
    · intro vals w1 hx hd
      have e3 : vals 3 = .int .i64 lg0 := hd 3 (by decide)
      refine .run [(56, .int .i64 lg0)] { dst := some 0, op := Go.Op.call { callee := Go.Callee.value (Go.Operand.func 13), args := #[(Go.Operand.const (.int .i64 lg0)), Go.Operand.const (Go.Value.int Go.IntKind.i64 600)], argTypes := #[3, 3] }, type := 3, pos := "", after := #[], guard := none } 57 ⟨.inn 3 (by kernel_rfl) e3, trivial⟩ (by kernel_rfl) (by kernel_rfl) (by kernel_rfl) rfl rfl rfl ?_
      clear hd e3
      go_wp2_with fail
      refine (HP2.out _).mono ?_
      rintro e w2 ⟨rfl, rfl⟩
      go_wp2
      exact ⟨rfl, Ext.refl _, rfl⟩
    · intro vals w1 hx hd
      have e2 : vals 2 = .int .i64 (a + 1) := hd 2 (by decide)
      have e4 : vals 4 = .int .i64 k2 := hd 4 (by decide)
      refine .run [(55, .int .i64 (a + 1)), (57, .int .i64 k2)] { dst := some 0, op := Go.Op.binOp Go.BinOp.add 3 (Go.Operand.const (.int .i64 (a + 1))) (Go.Operand.const (.int .i64 k2)) 3, type := 3, pos := "", after := #[], guard := none } 58 ⟨.inn 2 (by kernel_rfl) e2, .inn 4 (by kernel_rfl) e4, trivial⟩ (by kernel_rfl) (by kernel_rfl) (by kernel_rfl) rfl rfl rfl ?_
      clear hd e2 e4
      go_wp2
      exact ⟨rfl, Ext.refl _, rfl⟩
    · intro vals w1 hx hd
      refine .run [(21, .pointer (some ⟨g21, 0, none⟩))] { dst := some 0, op := Go.Op.fieldAddr 34 (Go.Operand.const (.pointer (some ⟨g21, 0, none⟩))) 1, type := 0, pos := "", after := #[], guard := none } 59 ⟨.out (by kernel_rfl) (by kernel_rfl), trivial⟩ (by kernel_rfl) (by kernel_rfl) (by kernel_rfl) rfl rfl rfl ?_
      clear hd
      go_wp2
      exact ⟨rfl, Ext.refl _, rfl⟩
  intro vals W9 hx hf
  have e5 : vals 5 = .int .i64 b := hf 5 (by omega)
  have e6 : vals 6 = .pointer (some ⟨g21, 1, none⟩) := hf 6 (by omega)
  clear hf t0 w1_ w2_
  have hx := hx.undrew
  have J15 := J15.ext hx
  have hB := Ext.trans hB hx
  have OHRS := Lib.hid (own_ext OHRS.out hx)
  have OHRT := Lib.hid (own_ext OHRT.out hx)
  have OHRS1 := Lib.hid (own_ext OHRS1.out hx)
  have OHRT1 := Lib.hid (own_ext OHRT1.out hx)
  have hx6 := Ext.trans hx6 hx
  have J21 := J21.ext hx
  clear hx
  refine tail1 7 _ (by kernel_rfl) (by kernel_rfl) rfl ?_
  simp only [Lf, dstAt, Act.put, List.getElem?_toArray, List.getElem?_cons_zero, List.getElem?_cons_succ, Option.bind_some, List.setIfInBounds_toArray, List.set_cons_zero, List.set_cons_succ]
  rw [e5, e6]
  clear e5 e6
  have t1 : W9.cell? ⟨g21, 1, none⟩ = some (.int .i64 0) := J21.cell 1
  have t2 : W9.frozen? ⟨g21, 1, none⟩ = false := J21.frozen 1
  go_upto_region 9 with (fail)
  clear t1 t2
  have hx6 := hx6.setCell (p := ⟨g21, 1, none⟩) n6 (.int .i64 b)
  have OHRS := Lib.hid (own_ext OHRS_.out hx6)
  have OHRT := Lib.hid (own_ext OHRT_.out hx6)
  have OHRS1 := Lib.hid (own_ext OHRS1_.out hx6)
  have OHRT1 := Lib.hid (own_ext OHRT1_.out hx6)
  have J15 := J15.far (p := ⟨g21, 1, none⟩) n_J15_J21 (.int .i64 b)
  have J21 := J21.set_ 1 (.int .i64 b)
  have hB := hB.setCell (p := ⟨g21, 1, none⟩) n_w_J21 (.int .i64 b)
  simp only [List.setIfInBounds_toArray, List.set_cons_zero, List.set_cons_succ] at J21
  generalize W9.setCell ⟨g21, 1, none⟩ (.int .i64 b) = Wa at J15 hB OHRS OHRT OHRS1 OHRT1 hx6 J21 ⊢
  clear n6 n_w_J21 OHRS_ OHRT_ OHRS1_ OHRT1_
  clear hx6
  go_cut [83] from 60 to 83 (fun c wc => (∃ q : Bool, c = .bool q) ∧ wc = Wa)
  case first =>
    have t0 : Wa.cell? ⟨g15, 0, none⟩ = some (.int .i64 sa) := J15.cell 0
    have t1 : Wa.cell? ⟨g15, 1, none⟩ = some (.int .i64 sb) := J15.cell 1
    by_cases c1 : 0 ≤ sa
    · by_cases c2 : sb ≤ 1000001
      · obtain ⟨df, hdf⟩ : ∃ v, IntKind.i64.wrap (sb - sa) = v := ⟨_, rfl⟩
        by_cases c3 : 600 < df
        · go_wp2_with fail
          all_goals
            go_meet
            case rel => exact ⟨⟨_, rfl⟩, rfl⟩
        · go_wp2_with fail
          all_goals
            go_meet
            case rel => exact ⟨⟨_, rfl⟩, rfl⟩
      · go_wp2_with fail
        go_meet
        case rel => exact ⟨⟨_, rfl⟩, rfl⟩
    · go_wp2_with fail
      go_meet
      case rel => exact ⟨⟨_, rfl⟩, rfl⟩
  obtain ⟨hqc, rfl⟩ := hcut
  obtain ⟨Wz, hWz⟩ : ∃ W : World, W = wc := ⟨_, rfl⟩
  rw [← hWz] at J15 hB OHRS OHRT OHRS1 OHRT1 J21 ⊢
  clear hWz
  go_wp2_with fail
  obtain ⟨qc, rfl⟩ := hqc
  have n21 : g21 ≠ g15 := fun h => n_J15_J21 h.symm
  go_cut [] from 60 to 87 (fun wc => ∃ b1 : Int, Blk wc g15 34 #[.int .i64 sa, .int .i64 b1] ∧ Blk wc g21 34 #[.int .i64 a, .int .i64 b] ∧ Below w.heap.size w wc ∧ Hid (wc.ownsRow bHRS 27 21 (.slice AHRS ms cHRS) ms (SL.flatMap satCells)) ∧ Hid (wc.ownsRow bHRT 31 6 (.slice AHRT mt cHRT) mt (TL.flatMap stnCells)) ∧ Hid (wc.ownsRow bHRS1 27 21 (.slice A19 (ms + 1) cA19) (ms + 1) (L.flatMap satCells)) ∧ Hid (wc.ownsRow bHRT1 31 6 (.slice A20 (mt + 1) cA20) (mt + 1) (TS.flatMap stnCells)))
  case first =>
    have t0 : Wz.cell? ⟨g15, 0, none⟩ = some (.int .i64 sa) := J15.cell 0
    have t1 : Wz.cell? ⟨g15, 1, none⟩ = some (.int .i64 sb) := J15.cell 1
    have t2 : Wz.frozen? ⟨g15, 1, none⟩ = false := J15.frozen 1
    cases qc
    · go_wp2_with fail
      go_meet
      case rel => exact ⟨_, J15, J21, hB, OHRS, OHRT, OHRS1, OHRT1⟩
    · obtain ⟨wv, hwv⟩ : ∃ v, IntKind.i64.wrap (sa + 600) = v := ⟨_, rfl⟩
      go_wp2_with fail
      go_meet
      case rel => exact ⟨wv, J15.set_ 1 _, J21.far (p := ⟨g15, 1, none⟩) n21 _, hB.setCell (p := ⟨g15, 1, none⟩) n15 _, Lib.hid (own_far (p := ⟨g15, 1, none⟩) OHRS.out lHRS _), Lib.hid (own_far (p := ⟨g15, 1, none⟩) OHRT.out lHRT _), Lib.hid (own_far (p := ⟨g15, 1, none⟩) OHRS1.out lHRS1 _), Lib.hid (own_far (p := ⟨g15, 1, none⟩) OHRT1.out lHRT1 _)⟩
  clear J15 J21 hB n15 n21 n_J15_J21 OHRS OHRT OHRS1 OHRT1
  obtain ⟨sb1, J15, J21, hB, OHRS, OHRT, OHRS1, OHRT1⟩ := hcut
  have HRS := Lib.hid (RA.of_own (cells := satCells) OHRS.out HMS.out.symm (by omega))
  have HRT := Lib.hid (RA.of_own (cells := stnCells) OHRT.out HMT.out.symm (by omega))
  have HRS1 := Lib.hid (RA.of_own (cells := satCells) OHRS1.out (by rw [HLL.out, List.length_append, ← HMS.out]; rfl) (by omega))
  have HRT1 := Lib.hid (RA.of_own (cells := stnCells) OHRT1.out (by rw [HTS.out, List.length_append, ← HMT.out]; rfl) (by omega))
  clear OHRS OHRT OHRS1 OHRT1 lHRS lHRT lHRS1 lHRT1
  obtain ⟨Wi, hWi⟩ : ∃ W : World, W = wc := ⟨_, rfl⟩
  rw [← hWi] at J15 J21 hB HRS HRT HRS1 HRT1 ⊢
  clear hWi
  have t0 : Wi.cell? ⟨g15, 0, none⟩ = some (.int .i64 sa) := J15.cell 0
  have t1 : Wi.cell? ⟨g15, 1, none⟩ = some (.int .i64 sb1) := J15.cell 1
  have t2 : Wi.cell? ⟨g21, 0, none⟩ = some (.int .i64 a) := J21.cell 0
  have t3 : Wi.cell? ⟨g21, 1, none⟩ = some (.int .i64 b) := J21.cell 1
  go_wp2
  clear t0 t1 t2 t3
  have J32 : Blk (Wi.alloc (.cells #[.int .i64 a, .int .i64 b, .int .i64 sa, .int .i64 sb1] 34)) Wi.heap.size 34 #[.int .i64 a, .int .i64 b, .int .i64 sa, .int .i64 sb1] := Blk.new _ _ _
  have hx : Ext Wi (Wi.alloc (.cells #[.int .i64 a, .int .i64 b, .int .i64 sa, .int .i64 sb1] 34)) := bl_alloc (Below.refl _ _) _
  obtain ⟨gu, hg⟩ : ∃ g, g = Wi.heap.size := ⟨_, rfl⟩
  rw [← hg] at J32 ⊢
  generalize Wi.alloc (.cells #[.int .i64 a, .int .i64 b, .int .i64 sa, .int .i64 sb1] 34) = Wj at J32 hx ⊢
  clear hg J15 J21
  have hB := Ext.trans hB hx
  have HRS := Lib.hid ((HRS.out.below hx).more (Below.size hx))
  have HRT := Lib.hid ((HRT.out.below hx).more (Below.size hx))
  have HRS1 := Lib.hid ((HRS1.out.below hx).more (Below.size hx))
  have HRT1 := Lib.hid ((HRT1.out.below hx).more (Below.size hx))
  clear hx
  have HRU := Lib.hid (RA.two (cells := splCells) (s := 2) (x := ⟨a, b⟩) (y := ⟨sa, sb1⟩) rfl rfl J32)
  clear J32
  go_loopw [92] (fun x wr => ∃ ke : Nat, ke ≤ 2 ∧ x = .int .i64 ke ∧ Ext Wj wr) (fun x _ => 2 - (intOf x).toNat)
  case atStart => exact ⟨0, Nat.zero_le _, rfl, Ext.refl _⟩
  case round =>
    obtain ⟨ke, hke, rfl, hke_⟩ := hrel
    by_cases hke2 : ke < 2
    · skip
      obtain ⟨gu_, guo, hz, hA, _, hc⟩ := (HRU.out.below hke_).at_ spl_len hke2
      obtain ⟨rfl, rfl⟩ : gu = gu_ ∧ 0 = guo := by injection hA with hA; injection hA with h1 h2; exact ⟨h1, h2⟩
      clear hA
      have n0 := hc 0 (by omega)
      have n1 := hc 1 (by omega)
      generalize ([⟨a, b⟩, ⟨sa, sb1⟩] : List Spl)[ke] = nu at n0 n1
      have hke3 : (ke : Int) < 2 := by omega
      obtain ⟨ua, ub⟩ := nu
      have n0 : wr.cell? ⟨gu, ke * 2, none⟩ = some (.int .i64 ua) := by rw [Nat.zero_add, Nat.add_zero] at n0; exact n0
      have n1 : wr.cell? ⟨gu, ke * 2 + 1, none⟩ = some (.int .i64 ub) := by rw [Nat.zero_add] at n1; exact n1
      clear hc hz
      go_upto_region 14 with (fail)
      clear n0 n1
      have J23 : Blk (wr.alloc (.cells #[.int .i64 ua, .int .i64 ub] 34)) wr.heap.size 34 #[.int .i64 ua, .int .i64 ub] := Blk.new _ _ _
      have hx : Ext wr (wr.alloc (.cells #[.int .i64 ua, .int .i64 ub] 34)) := bl_alloc (Below.refl _ _) _
      obtain ⟨g23, hg⟩ : ∃ g, g = wr.heap.size := ⟨_, rfl⟩
      rw [← hg] at J23 ⊢
      generalize wr.alloc (.cells #[.int .i64 ua, .int .i64 ub] 34) = Wk at J23 hx ⊢
      clear hg
      have hke_ := Ext.trans hke_ hx
      clear hx
      go_wp2
      go_loopw [24] (fun x wr => ∃ kf : Nat, kf ≤ 3 ∧ x = .int .i64 kf ∧ Ext Wk wr) (fun x _ => 3 - (intOf x).toNat)
      case atStart => exact ⟨0, Nat.zero_le _, rfl, Ext.refl _⟩
      case round =>
        obtain ⟨kf, hkf, rfl, hkf_⟩ := hrel
        by_cases hkf2 : kf < 3
        · skip
          have hxx := Ext.trans hke_ hkf_
          obtain rfl | rfl | rfl : kf = 0 ∨ kf = 1 ∨ kf = 2 := by omega
          · skip
            go_upto_region 18 with (fail)
            have hx : Ext wr (wr.alloc (.cells #[.slice AHRS ms cHRS, .slice A19 (ms + 1) cA19, .slice AHRS ms cHRS] 36)) := bl_alloc (Below.refl _ _) _
            generalize wr.alloc (.cells #[.slice AHRS ms cHRS, .slice A19 (ms + 1) cA19, .slice AHRS ms cHRS] 36) = Wl at hx ⊢
            have hkf_ := Ext.trans hkf_ hx
            have hxx := Ext.trans hxx hx
            clear hx
            go_upto_region 19 with (fail)
            have hx : Ext Wl (Wl.alloc (.cells #[.slice AHRT mt cHRT, .slice AHRT mt cHRT, .slice A20 (mt + 1) cA20] 38)) := bl_alloc (Below.refl _ _) _
            generalize Wl.alloc (.cells #[.slice AHRT mt cHRT, .slice AHRT mt cHRT, .slice A20 (mt + 1) cA20] 38) = Wm at hx ⊢
            have hkf_ := Ext.trans hkf_ hx
            have hxx := Ext.trans hxx hx
            clear hx
            have m0 : Wm.cell? ⟨g23, 0, none⟩ = some (.int .i64 ua) := (J23.ext hkf_).cell 0
            have m1 : Wm.cell? ⟨g23, 1, none⟩ = some (.int .i64 ub) := (J23.ext hkf_).cell 1
            obtain ⟨r, hr⟩ : ∃ r, r = passesP SL TL ⟨ua, ub⟩ := ⟨_, rfl⟩
            have hll := l_le SL TL ⟨ua, ub⟩
            rw [← hr] at hll
            have HP8 : Hid (∀ W, Ext Wj W → Calls Try.prog 31 #[.slice AHRS ms cHRS, .slice AHRT mt cHRT, .agg #[.int .i64 ua, .int .i64 ub]] W (PassesRet r W)) := Lib.hid (fun W h => by rw [hr]; exact Passes_all SL TL _ _ _ _ _ _ ua ub W ((HRS.out.below h).more (Below.size h)) ((HRT.out.below h).more (Below.size h)))
            have HP9 : Hid (∀ W, Ext Wj W → Calls Try.prog 32 #[.slice AHRS ms cHRS, .slice AHRT mt cHRT, .agg #[.int .i64 ua, .int .i64 ub]] W (PassesRet r W)) := Lib.hid (fun W h => by rw [hr]; exact rPasses_any SL TL _ _ _ _ _ _ ua ub W ((HRS.out.below h).more (Below.size h)) ((HRT.out.below h).more (Below.size h)))
            clear hr
            go_wp2_with (fail)
            refine (HP8.out _ hxx).mono ?_
            intro e Wn hret
            obtain ⟨va, rfl, hown, hx⟩ := ret_form hret
            clear hret m0 m1
            have hkf_ := Ext.trans hkf_ hx
            have hxx := Ext.trans hxx hx
            clear hx
            obtain ⟨er, her⟩ : ∃ er, er = erOf r := ⟨_, rfl⟩
            obtain ⟨nl, hnl⟩ : ∃ n, n = (lOf r).length := ⟨_, rfl⟩
            rw [← her]
            rw [← hnl] at hown hll
            have HER := Lib.hid her
            have HNL := Lib.hid hnl
            clear her hnl
            obtain ⟨Aa, ca, hva, _, _⟩ := own_slice hown
            subst hva
            have HOa := Lib.hid (RA.of_own (cells := pasCells) hown HNL.out.symm (by omega))
            clear hown
            have m0 : Wn.cell? ⟨g23, 0, none⟩ = some (.int .i64 ua) := (J23.ext hkf_).cell 0
            have m1 : Wn.cell? ⟨g23, 1, none⟩ = some (.int .i64 ub) := (J23.ext hkf_).cell 1
            go_wp2_with (fail)
            refine (HP9.out _ hxx).mono ?_
            intro e Wo hret
            obtain ⟨vb, rfl, hown, hx⟩ := ret_form hret
            clear hret m0 m1 HP8 HP9
            have hkf_ := Ext.trans hkf_ hx
            have HOa := Lib.hid ((HOa.out.below hx).more (Below.size hx))
            clear hx hxx
            rw [← HER.out]
            rw [← HNL.out] at hown
            obtain ⟨Ab, cb, hvb, _, _⟩ := own_slice hown
            subst hvb
            have HOb := Lib.hid (RA.of_own (cells := pasCells) hown HNL.out.symm (by omega))
            clear hown
            have hq2 : (er != er) = false := by simp
            have hsm := samePas_any Aa Ab nl nl ca cb (lOf r) (lOf r) Wo HOa.out HOb.out
            rw [decide_eq_true rfl] at hsm
            have HSM := Lib.hid hsm
            clear hsm HOa HOb
            go_wp2_with (fail)
            refine HSM.out.mono ?_
            rintro e Wp ⟨rfl, hx⟩
            have hkf_ := Ext.trans hkf_ hx
            clear hx HSM hq2
            go_wp2
            go_roundw
            case rel => exact ⟨1, by omega, by go_num, hkf_⟩
            case measure => simp [intOf]
          · skip
            go_upto_region 18 with (fail)
            have hx : Ext wr (wr.alloc (.cells #[.slice AHRS ms cHRS, .slice A19 (ms + 1) cA19, .slice AHRS ms cHRS] 36)) := bl_alloc (Below.refl _ _) _
            generalize wr.alloc (.cells #[.slice AHRS ms cHRS, .slice A19 (ms + 1) cA19, .slice AHRS ms cHRS] 36) = Wl at hx ⊢
            have hkf_ := Ext.trans hkf_ hx
            have hxx := Ext.trans hxx hx
            clear hx
            go_upto_region 19 with (fail)
            have hx : Ext Wl (Wl.alloc (.cells #[.slice AHRT mt cHRT, .slice AHRT mt cHRT, .slice A20 (mt + 1) cA20] 38)) := bl_alloc (Below.refl _ _) _
            generalize Wl.alloc (.cells #[.slice AHRT mt cHRT, .slice AHRT mt cHRT, .slice A20 (mt + 1) cA20] 38) = Wm at hx ⊢
            have hkf_ := Ext.trans hkf_ hx
            have hxx := Ext.trans hxx hx
            clear hx
            have m0 : Wm.cell? ⟨g23, 0, none⟩ = some (.int .i64 ua) := (J23.ext hkf_).cell 0
            have m1 : Wm.cell? ⟨g23, 1, none⟩ = some (.int .i64 ub) := (J23.ext hkf_).cell 1
            obtain ⟨r, hr⟩ : ∃ r, r = passesP L TL ⟨ua, ub⟩ := ⟨_, rfl⟩
            have hll := l_le L TL ⟨ua, ub⟩
            rw [← hr] at hll
            have HP8 : Hid (∀ W, Ext Wj W → Calls Try.prog 31 #[.slice A19 (ms + 1) cA19, .slice AHRT mt cHRT, .agg #[.int .i64 ua, .int .i64 ub]] W (PassesRet r W)) := Lib.hid (fun W h => by rw [hr]; exact Passes_all L TL _ _ _ _ _ _ ua ub W ((HRS1.out.below h).more (Below.size h)) ((HRT.out.below h).more (Below.size h)))
            have HP9 : Hid (∀ W, Ext Wj W → Calls Try.prog 32 #[.slice A19 (ms + 1) cA19, .slice AHRT mt cHRT, .agg #[.int .i64 ua, .int .i64 ub]] W (PassesRet r W)) := Lib.hid (fun W h => by rw [hr]; exact rPasses_any L TL _ _ _ _ _ _ ua ub W ((HRS1.out.below h).more (Below.size h)) ((HRT.out.below h).more (Below.size h)))
            clear hr
            go_wp2_with (fail)
            refine (HP8.out _ hxx).mono ?_
            intro e Wn hret
            obtain ⟨va, rfl, hown, hx⟩ := ret_form hret
            clear hret m0 m1
            have hkf_ := Ext.trans hkf_ hx
            have hxx := Ext.trans hxx hx
            clear hx
            obtain ⟨er, her⟩ : ∃ er, er = erOf r := ⟨_, rfl⟩
            obtain ⟨nl, hnl⟩ : ∃ n, n = (lOf r).length := ⟨_, rfl⟩
            rw [← her]
            rw [← hnl] at hown hll
            have HER := Lib.hid her
            have HNL := Lib.hid hnl
            clear her hnl
            obtain ⟨Aa, ca, hva, _, _⟩ := own_slice hown
            subst hva
            have HOa := Lib.hid (RA.of_own (cells := pasCells) hown HNL.out.symm (by omega))
            clear hown
            have m0 : Wn.cell? ⟨g23, 0, none⟩ = some (.int .i64 ua) := (J23.ext hkf_).cell 0
            have m1 : Wn.cell? ⟨g23, 1, none⟩ = some (.int .i64 ub) := (J23.ext hkf_).cell 1
            go_wp2_with (fail)
            refine (HP9.out _ hxx).mono ?_
            intro e Wo hret
            obtain ⟨vb, rfl, hown, hx⟩ := ret_form hret
            clear hret m0 m1 HP8 HP9
            have hkf_ := Ext.trans hkf_ hx
            have HOa := Lib.hid ((HOa.out.below hx).more (Below.size hx))
            clear hx hxx
            rw [← HER.out]
            rw [← HNL.out] at hown
            obtain ⟨Ab, cb, hvb, _, _⟩ := own_slice hown
            subst hvb
            have HOb := Lib.hid (RA.of_own (cells := pasCells) hown HNL.out.symm (by omega))
            clear hown
            have hq2 : (er != er) = false := by simp
            have hsm := samePas_any Aa Ab nl nl ca cb (lOf r) (lOf r) Wo HOa.out HOb.out
            rw [decide_eq_true rfl] at hsm
            have HSM := Lib.hid hsm
            clear hsm HOa HOb
            go_wp2_with (fail)
            refine HSM.out.mono ?_
            rintro e Wp ⟨rfl, hx⟩
            have hkf_ := Ext.trans hkf_ hx
            clear hx HSM hq2
            go_wp2
            go_roundw
            case rel => exact ⟨2, by omega, by go_num, hkf_⟩
            case measure => simp [intOf]
          · skip
            go_upto_region 18 with (fail)
            have hx : Ext wr (wr.alloc (.cells #[.slice AHRS ms cHRS, .slice A19 (ms + 1) cA19, .slice AHRS ms cHRS] 36)) := bl_alloc (Below.refl _ _) _
            generalize wr.alloc (.cells #[.slice AHRS ms cHRS, .slice A19 (ms + 1) cA19, .slice AHRS ms cHRS] 36) = Wl at hx ⊢
            have hkf_ := Ext.trans hkf_ hx
            have hxx := Ext.trans hxx hx
            clear hx
            go_upto_region 19 with (fail)
            have hx : Ext Wl (Wl.alloc (.cells #[.slice AHRT mt cHRT, .slice AHRT mt cHRT, .slice A20 (mt + 1) cA20] 38)) := bl_alloc (Below.refl _ _) _
            generalize Wl.alloc (.cells #[.slice AHRT mt cHRT, .slice AHRT mt cHRT, .slice A20 (mt + 1) cA20] 38) = Wm at hx ⊢
            have hkf_ := Ext.trans hkf_ hx
            have hxx := Ext.trans hxx hx
            clear hx
            have m0 : Wm.cell? ⟨g23, 0, none⟩ = some (.int .i64 ua) := (J23.ext hkf_).cell 0
            have m1 : Wm.cell? ⟨g23, 1, none⟩ = some (.int .i64 ub) := (J23.ext hkf_).cell 1
            obtain ⟨r, hr⟩ : ∃ r, r = passesP SL TS ⟨ua, ub⟩ := ⟨_, rfl⟩
            have hll := l_le SL TS ⟨ua, ub⟩
            rw [← hr] at hll
            have HP8 : Hid (∀ W, Ext Wj W → Calls Try.prog 31 #[.slice AHRS ms cHRS, .slice A20 (mt + 1) cA20, .agg #[.int .i64 ua, .int .i64 ub]] W (PassesRet r W)) := Lib.hid (fun W h => by rw [hr]; exact Passes_all SL TS _ _ _ _ _ _ ua ub W ((HRS.out.below h).more (Below.size h)) ((HRT1.out.below h).more (Below.size h)))
            have HP9 : Hid (∀ W, Ext Wj W → Calls Try.prog 32 #[.slice AHRS ms cHRS, .slice A20 (mt + 1) cA20, .agg #[.int .i64 ua, .int .i64 ub]] W (PassesRet r W)) := Lib.hid (fun W h => by rw [hr]; exact rPasses_any SL TS _ _ _ _ _ _ ua ub W ((HRS.out.below h).more (Below.size h)) ((HRT1.out.below h).more (Below.size h)))
            clear hr
            go_wp2_with (fail)
            refine (HP8.out _ hxx).mono ?_
            intro e Wn hret
            obtain ⟨va, rfl, hown, hx⟩ := ret_form hret
            clear hret m0 m1
            have hkf_ := Ext.trans hkf_ hx
            have hxx := Ext.trans hxx hx
            clear hx
            obtain ⟨er, her⟩ : ∃ er, er = erOf r := ⟨_, rfl⟩
            obtain ⟨nl, hnl⟩ : ∃ n, n = (lOf r).length := ⟨_, rfl⟩
            rw [← her]
            rw [← hnl] at hown hll
            have HER := Lib.hid her
            have HNL := Lib.hid hnl
            clear her hnl
            obtain ⟨Aa, ca, hva, _, _⟩ := own_slice hown
            subst hva
            have HOa := Lib.hid (RA.of_own (cells := pasCells) hown HNL.out.symm (by omega))
            clear hown
            have m0 : Wn.cell? ⟨g23, 0, none⟩ = some (.int .i64 ua) := (J23.ext hkf_).cell 0
            have m1 : Wn.cell? ⟨g23, 1, none⟩ = some (.int .i64 ub) := (J23.ext hkf_).cell 1
            go_wp2_with (fail)
            refine (HP9.out _ hxx).mono ?_
            intro e Wo hret
            obtain ⟨vb, rfl, hown, hx⟩ := ret_form hret
            clear hret m0 m1 HP8 HP9
            have hkf_ := Ext.trans hkf_ hx
            have HOa := Lib.hid ((HOa.out.below hx).more (Below.size hx))
            clear hx hxx
            rw [← HER.out]
            rw [← HNL.out] at hown
            obtain ⟨Ab, cb, hvb, _, _⟩ := own_slice hown
            subst hvb
            have HOb := Lib.hid (RA.of_own (cells := pasCells) hown HNL.out.symm (by omega))
            clear hown
            have hq2 : (er != er) = false := by simp
            have hsm := samePas_any Aa Ab nl nl ca cb (lOf r) (lOf r) Wo HOa.out HOb.out
            rw [decide_eq_true rfl] at hsm
            have HSM := Lib.hid hsm
            clear hsm HOa HOb
            go_wp2_with (fail)
            refine HSM.out.mono ?_
            rintro e Wp ⟨rfl, hx⟩
            have hkf_ := Ext.trans hkf_ hx
            clear hx HSM hq2
            go_wp2
            go_roundw
            case rel => exact ⟨3, by omega, by go_num, hkf_⟩
            case measure => simp [intOf]
        · skip
          have hke_ := Ext.trans hke_ hkf_
          clear hkf_
          go_wp2
          go_roundw
          case rel => exact ⟨ke + 1, by omega, by go_num, hke_⟩
          case measure => simp [intOf]; omega
    · skip
      go_wp2
      go_ret
      exact ⟨rfl, Ext.trans hB hke_⟩

end Go.Proofs.Ytlmpmhfbjblhnaa
