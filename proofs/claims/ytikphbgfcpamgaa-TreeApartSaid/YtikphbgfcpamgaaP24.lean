/- Valid. -/
import Derived.Test.YtikphbgfcpamgaaP23
import Derived.Test.YtikphbgfcpamgaaP15
namespace Go.Proofs.Ytikphbgfcpamgaa
open Go.RowKit

theorem or2_i64 {S T : Nat} (hS : S < 256) (hT : T < 256) : bits BinOp.or IntKind.i64 (S : Int) (T : Int) = ((S ||| T : Nat) : Int) := by
  have h : S ||| T < 256 := Nat.or_lt_two_pow (n := 8) hS hT
  have e : (BitVec.ofInt 64 (S : Int) ||| BitVec.ofInt 64 (T : Int)).toNat = S ||| T := by
    rw [BitVec.ofInt_natCast, BitVec.ofInt_natCast, BitVec.toNat_or, BitVec.toNat_ofNat, BitVec.toNat_ofNat, Nat.mod_eq_of_lt (by omega), Nat.mod_eq_of_lt (by omega)]
  show IntKind.i64.wrap ((BitVec.ofInt 64 (S : Int) ||| BitVec.ofInt 64 (T : Int)).toNat : Int) = _
  rw [e]
  exact IntWalk.i64_in _ (by omega)
theorem info_int : (Try.prog.info? 3).map (fun i => (i.zero, i.size, i.bytes)) = some (some (.int .i64 0), 1, 8) := by kernel_rfl
def intCells1 (l : List Int) : Array Value := (l.map (Value.int .i64)).toArray
def zarr (O : List Nat) (n : Nat) : List Int := O.map (fun x : Nat => (x : Int)) ++ List.replicate (n - O.length) 0
theorem zarr_nil (n : Nat) : zarr [] n = List.replicate n 0 := by unfold zarr; simp
theorem zarr_put {O : List Nat} {n : Nat} (h : O.length < n) (x : Nat) : (zarr O n).set O.length (x : Int) = zarr (O ++ [x]) n := by
  unfold zarr
  obtain ⟨m, hm⟩ : ∃ m, n - O.length = m + 1 := ⟨n - O.length - 1, by omega⟩
  rw [hm, List.replicate_succ, List.set_append_right _ _ (by simp)]
  have e : n - (O.length + 1) = m := by omega
  simp [e]
theorem zarr_set {O : List Nat} {n : Nat} (y x : Nat) : (zarr (O ++ [y]) n).set O.length (x : Int) = zarr (O ++ [x]) n := by
  unfold zarr
  simp
theorem zarr_len {O : List Nat} {n : Nat} (h : O.length ≤ n) : (zarr O n).length = n := by
  unfold zarr
  rw [List.length_append, List.length_map, List.length_replicate]
  omega
theorem zarr_at {O : List Nat} {n i : Nat} (h : i < O.length) : (zarr O n)[i]? = some ((O.getD i 0 : Nat) : Int) := by
  unfold zarr
  rw [List.getElem?_append_left (by simpa using h), List.getElem?_map, List.getD_eq_getElem?_getD, List.getElem?_eq_getElem h]
  rfl
theorem zarr_zero {O : List Nat} {n : Nat} (h : O.length < n) : (zarr O n)[O.length]? = some 0 := by
  unfold zarr
  rw [List.getElem?_append_right (by simp), List.length_map, Nat.sub_self, List.getElem?_replicate, if_pos (by omega)]
theorem cells_at {l : List Int} {i : Nat} {x : Int} (h : l[i]? = some x) : (intCells1 l)[i]? = some (.int .i64 x) := by
  simp [intCells1, h]
theorem cells_set (l : List Int) (i : Nat) (x : Int) : (intCells1 l).setIfInBounds i (.int .i64 x) = intCells1 (l.set i x) := by
  simp [intCells1, List.map_set]
theorem make_ints (n : Nat) (hn : n ≤ 2000) (w : World) : (Instr.makeSlice 34 (.int .i64 (n : Int)) (.int .i64 (n : Int))).run Try.prog w = .ok (.slice (some ⟨w.heap.size, 0, none⟩) n n) (w.alloc (.cells (intCells1 (List.replicate n 0)) 3)) := by
  obtain ⟨i, hi, hz, h1, h8⟩ := info_parts info_int
  have h := run_make_rowN 34 3 i _ Try.underlying34 hi hz .i64 .i64 n n (Nat.le_refl _) (by rw [h8]; omega) (by omega) w
  rw [h, h1, Nat.mul_one]
  have : madeCells (Value.int .i64 0).cells n = intCells1 (List.replicate n 0) := by
    apply Array.ext'
    rw [intCells1, List.map_replicate]
    exact toList_madeCells_one _ _
  rw [this]
theorem idx0 (a b : Int) (w : World) : (Instr.index 92 (.agg #[.int .i64 a, .int .i64 b]) (.int .i64 0)).run Try.prog w = .ok (.int .i64 a) w := by kernel_rfl
theorem idx1 (a b : Int) (w : World) : (Instr.index 92 (.agg #[.int .i64 a, .int .i64 b]) (.int .i64 1)).run Try.prog w = .ok (.int .i64 b) w := by kernel_rfl
theorem RA.of_own2 {α : Type} {cells : α → List Value} {s : Nat} {w : World} {base n c : Nat} {A : Option Addr} {e : TypeId} {l : List α} (h : w.ownsRow base e s (.slice A n c) n (l.flatMap cells)) (hl : l.length = n) : RA cells s w w.heap.size A n c l := by
  obtain ⟨A', c', hv, h1, h2⟩ := own_slice h
  injection hv with e1 e2 e3
  subst e1 e3
  exact ⟨Reads.of_own h, hl, h1, h2, by unfold maxLen at h2; omega⟩
set_option maxRecDepth 100000 in
set_option maxHeartbeats 1000000 in
theorem valid_any (T : List Brn) (TA : Option Addr) (tn tc : Nat) (k : Int) (os : List Opt) (A : Option Addr) (n c : Nat) (w : World) (hT : RA brnCells 5 w w.heap.size TA tn tc T) (hO : Ops w w.heap.size A n c os) :
    Calls Try.prog 18 #[.agg #[.int .i64 k, .slice TA tn tc], .slice A n c] w fun e w' => e = .returned (.bool (validP (opsP os) T k)) ∧ Ext w w' := by
  have hln := hO.out.len
  have hlt := hT.len
  have hle := hO.out.le
  have hle2 := hT.le
  obtain ⟨V, hV⟩ : ∃ V, V = validP (opsP os) T k := ⟨_, rfl⟩
  rw [← hV]
  have HPL := Lib.hid (fun (W : World) (hx : Ext w W) => places_any os A n c W (hO.ext hx))
  have HC8 := Lib.hid (fun h : carP (opsP os) = true => (show n ≤ 8 by
    rw [carP, Bool.and_eq_true, okL_ops, hln, Bool.and_eq_true] at h
    exact of_decide_eq_true h.1.1))
  have hV2 : V = (carP (opsP os) && decide (tn ≤ 1500) && inB k (-1) ((tn : Int) - 1) && chkR (opsP os) T [] T && decide (bld [] (unf T k) = (T, k))) := by rw [hV, validP, hlt]
  generalize hcb : carP (opsP os) = cb at HPL HC8 hV2
  generalize srtC (opsP os) = S at HPL
  have HV := Lib.hid hV2
  have HT := Lib.hid hT
  have HO := Lib.hid hO
  have HLN := Lib.hid hln
  have HLT := Lib.hid hlt
  clear hV hV2 hcb hT hO hln hlt
  go_enter Try.func18, Try.ntmps18
  go_wp2_with fail
  have JB := Blk.new w 33 #[.int .i64 k, .slice TA tn tc]
  have hx : Ext w (w.alloc (.cells #[.int .i64 k, .slice TA tn tc] 33)) := bl_alloc (Below.refl _ _) _
  generalize w.heap.size = gb at JB ⊢
  generalize w.alloc (.cells #[.int .i64 k, .slice TA tn tc] 33) = W1 at JB hx ⊢
  have hc := HPL.out W1 hx
  clear HPL
  refine hc.mono ?_
  clear hc
  rintro e W2 ⟨v, rfl, _, hy⟩
  have hx2 := Ext.trans hx hy
  have J2 := JB.ext hy
  have b0 : W2.cell? ⟨gb, 0, none⟩ = some (.int .i64 k) := J2.cell 0
  have b1 : W2.cell? ⟨gb, 1, none⟩ = some (.slice TA tn tc) := J2.cell 1
  have HJ2 := Lib.hid J2
  clear hx hy JB J2
  cases cb
  · have HF : Hid (V = false) := Lib.hid (by rw [HV.out]; simp)
    clear HV HC8
    go_wp2
    go_ret
    exact ⟨show Ending.returned (.bool false) = .returned (.bool V) by rw [HF.out], hx2⟩
  · by_cases h15 : tn ≤ 1500
    · have h15z : ¬ (1500 : Int) < (tn : Int) := by omega
      have hw1 : IntKind.i64.wrap ((tn : Int) - 1) = (tn : Int) - 1 := IntWalk.i64_in _ (by omega)
      have HIN := Lib.hid (fun W => isIn_any k (-1) ((tn : Int) - 1) W)
      generalize hin : inB k (-1) ((tn : Int) - 1) = ik at HIN HV
      have HIK := Lib.hid hin
      clear hin
      cases ik
      · have HF : Hid (V = false) := Lib.hid (by rw [HV.out]; simp)
        clear HV HC8
        go_wp2_with (refine (HIN.out _).mono ?_; rintro e w2 ⟨rfl, rfl⟩)
        go_ret
        exact ⟨show Ending.returned (.bool false) = .returned (.bool V) by rw [HF.out], hx2⟩
      · have HV1 : Hid (V = (chkR (opsP os) T [] T && decide (bld [] (unf T k) = (T, k)))) := Lib.hid (by rw [HV.out, decide_eq_true h15]; simp)
        have h8 := HC8.out rfl
        clear HV HC8
        have hmk := make_ints tn (by omega)
        go_upto_region 4 with (refine (HIN.out _).mono ?_; rintro e w2 ⟨rfl, rfl⟩)
        have J3 : Blk (W2.alloc (.cells (intCells1 (List.replicate tn 0)) 3)) W2.heap.size 3 (intCells1 (List.replicate tn 0)) := Blk.new _ _ _
        have hxa : Ext W2 (W2.alloc (.cells (intCells1 (List.replicate tn 0)) 3)) := bl_alloc (Below.refl _ _) _
        go_upto_region 5 with (fail)
        have hgz : w.heap.size ≤ W2.heap.size := Below.size hx2
        have hne : gb < W2.heap.size := HJ2.out.lt
        generalize W2.heap.size = gz at J3 hgz hne ⊢
        rw [← zarr_nil] at J3 hxa ⊢
        generalize W2.alloc (.cells (intCells1 (zarr [] tn)) 3) = W3 at J3 hxa ⊢
        have HJ3 := Lib.hid (HJ2.out.ext hxa)
        have hx3 := Ext.trans hx2 hxa
        have b1 := ext_cell hxa b1
        have HZ0 := Lib.hid J3
        obtain ⟨Z, hZ⟩ : ∃ Z, Z = decide (bld [] (unf T k) = (T, k)) := ⟨_, rfl⟩
        obtain ⟨ck, hck⟩ : ∃ ck, ck = chkR (opsP os) T [] T := ⟨_, rfl⟩
        have HV : Hid (V = (ck && Z)) := Lib.hid (by rw [HV1.out, hZ, hck])
        have HC0 : Hid (ck = chkR (opsP os) T [] (T.drop 0)) := Lib.hid (by rw [hck, List.drop_zero])
        have HDN := Lib.hid (fun h : ck = true => chk_down (hck.symm.trans h))
        have HZ1 := Lib.hid hZ
        clear hck
        clear hmk hZ HV1 J3 hx2 hxa b0 HJ2
        go_wp2_with fail
        clear b1
        go_loopw [42] (fun x wr => ∃ (j : Nat) (O : List Nat), j ≤ tn ∧ x = .int .i64 j ∧ O.length = j ∧ Hid (∀ y ∈ O, y < 256) ∧ Hid (ck = chkR (opsP os) T O (T.drop j)) ∧ Hid (Blk wr gz 3 (intCells1 (zarr O tn))) ∧ Hid (Blk wr gb 33 #[.int .i64 k, .slice TA tn tc]) ∧ Ext w wr) (fun x _ => tn - (intOf x).toNat)
        case atStart => exact ⟨0, [], Nat.zero_le _, rfl, rfl, Lib.hid (fun y h => by cases h), HC0, HZ0, HJ3, hx3⟩
        case round =>
          clear HC0 HZ0 HJ3 hx3
          obtain ⟨j, O, hj, rfl, hol, HB, HC, HZR, HJ, hxq⟩ := hrel
          by_cases hjt : j < tn
          · obtain ⟨bT, oT, hzT, hAT, _, hcT⟩ := (ra_ext HT.out hxq).at_ brn_len hjt
            have hck := HC.out
            rw [List.drop_eq_getElem_cons hzT, chkR, okB_eq] at hck
            generalize T[j] = br at hcT hck
            obtain ⟨bat, bopt, bslot, byes, bno⟩ := br
            have a0 : wr.cell? ⟨bT, oT + j * 5, none⟩ = some (.int .i64 bat) := hcT 0 (by omega)
            have a1 : wr.cell? ⟨bT, oT + j * 5 + 1, none⟩ = some (.int .i64 bopt) := hcT 1 (by omega)
            have a2 : wr.cell? ⟨bT, oT + j * 5 + 2, none⟩ = some (.int .i64 bslot) := hcT 2 (by omega)
            have a3 : wr.cell? ⟨bT, oT + j * 5 + 3, none⟩ = some (.int .i64 byes) := hcT 3 (by omega)
            have a4 : wr.cell? ⟨bT, oT + j * 5 + 4, none⟩ = some (.int .i64 bno) := hcT 4 (by omega)
            have hjz : (j : Int) < (tn : Int) := by omega
            have HCK := Lib.hid hck
            subst hAT
            clear hcT hzT hck HC
            go_upto_region 8 with (fail)
            have J9 := Blk.new wr 30 #[.int .i64 bat, .int .i64 bopt, .int .i64 bslot, .int .i64 byes, .int .i64 bno]
            have hy : Ext wr (wr.alloc (.cells #[.int .i64 bat, .int .i64 bopt, .int .i64 bslot, .int .i64 byes, .int .i64 bno] 30)) := bl_alloc (Below.refl _ _) _
            have hg9 : gz < wr.heap.size := HZR.out.lt
            have hg9b : gb < wr.heap.size := HJ.out.lt
            generalize wr.heap.size = g9 at J9 hg9 hg9b ⊢
            generalize wr.alloc (.cells #[.int .i64 bat, .int .i64 bopt, .int .i64 bslot, .int .i64 byes, .int .i64 bno] 30) = W4 at J9 hy ⊢
            have hx4 := Ext.trans hxq hy
            have HZ4 := Lib.hid (HZR.out.ext hy)
            have HJ4 := Lib.hid (HJ.out.ext hy)
            have HJ9 := Lib.hid J9
            have d0 : W4.cell? ⟨g9, 0, none⟩ = some (.int .i64 bat) := J9.cell 0
            have d1 : W4.cell? ⟨g9, 1, none⟩ = some (.int .i64 bopt) := J9.cell 1
            have d2 : W4.cell? ⟨g9, 2, none⟩ = some (.int .i64 bslot) := J9.cell 2
            have hwn : IntKind.i64.wrap ((n : Int) - 1) = (n : Int) - 1 := IntWalk.i64_in _ (by omega)
            have HI1 : Hid (∀ W, Calls Try.prog 41 #[.int .i64 bopt, .int .i64 0, .int .i64 ((n : Int) - 1)] W fun e w' => e = .returned (.bool (inB bopt 0 ((n : Int) - 1))) ∧ w' = W) := Lib.hid (fun W => (isIn_any bopt 0 ((n : Int) - 1) W).mono fun _ _ h => ⟨h.1, h.2.symm⟩)
            have hol2 : ((opsP os).length : Int) - 1 = (n : Int) - 1 := by unfold opsP; rw [List.length_map, HLN.out]
            clear a0 a1 a2 a3 a4 hy hxq HZR HJ J9
            cases hi1 : inB bopt 0 ((n : Int) - 1)
            · have hsb : slotB (opsP os) ⟨bat, bopt, bslot, byes, bno⟩ = false := by
                unfold slotB
                rw [hol2, hi1]
                rfl
              have hckf : ck = false := by rw [HCK.out, hsb]; simp
              have HF : Hid (V = false) := Lib.hid (by rw [HV.out, hckf]; rfl)
              rw [hi1] at HI1
              clear hsb hckf HCK HV hol2 hi1
              go_quiet (exact Calls.quiet_of_same (HI1.out _))
              go_wp2
              go_ret
              exact ⟨show Ending.returned (.bool false) = .returned (.bool V) by rw [HF.out], below_drewN hx4 _⟩
            · obtain ⟨hp0, hp1⟩ := inB_iff.1 hi1
              obtain ⟨p, rfl⟩ : ∃ p : Nat, bopt = p := ⟨bopt.toNat, by omega⟩
              have hpn : p < n := by omega
              obtain ⟨b, off, hz, hA, _, hcell⟩ := (HO.out.ext hx4).out.at_ opt_len hpn
              have hsl := HO.out.each os[p] (List.getElem_mem hz)
              have hop : (opsP os)[p]? = some os[p].op := by simp [opsP, hz]
              generalize os[p] = o at hcell hsl hop
              obtain ⟨id, i1, i2, sat, sf, st, i6, size, a, m, d, l⟩ := o
              have c8 : W4.cell? ⟨b, off + p * 9 + 8, none⟩ = some (.slice a m d) := hcell 8 (by omega)
              have hml := hsl.len
              have hmle := hsl.le
              dsimp only at hsl hml hmle
              have hwm : IntKind.i64.wrap ((m : Int) - 1) = (m : Int) - 1 := IntWalk.i64_in _ (by omega)
              have HI2 : Hid (∀ W, Calls Try.prog 41 #[.int .i64 bslot, .int .i64 0, .int .i64 ((m : Int) - 1)] W fun e w' => e = .returned (.bool (inB bslot 0 ((m : Int) - 1))) ∧ w' = W) := Lib.hid (fun W => (isIn_any bslot 0 ((m : Int) - 1) W).mono fun _ _ h => ⟨h.1, h.2.symm⟩)
              have hsb : slotB (opsP os) ⟨bat, (p : Int), bslot, byes, bno⟩ = (inB bslot 0 ((m : Int) - 1) && (match l[bslot.toNat]? with | none => false | some s => decide (bat = s.fr))) := by
                unfold slotB
                dsimp only
                rw [hol2, hi1, Int.toNat_natCast, hop]
                dsimp only [Opt.op]
                rw [hml]
                rfl
              have hpz : (p : Int) < (n : Int) := by omega
              rw [hi1] at HI1
              have HSL := Lib.hid hsl
              have HOPT := Lib.hid hop
              subst hA
              clear hcell hz hol2 hi1 hsl hop hp0 hp1
              cases hi2 : inB bslot 0 ((m : Int) - 1)
              · rw [hi2, Bool.false_and] at hsb
                have hckf : ck = false := by rw [HCK.out, hsb]; simp
                have HF : Hid (V = false) := Lib.hid (by rw [HV.out, hckf]; rfl)
                rw [hi2] at HI2
                clear hsb hckf HCK HV hi2
                go_quiet (first | with_reducible exact Calls.quiet_of_same (HI1.out _) | with_reducible exact Calls.quiet_of_same (HI2.out _))
                go_wp2
                go_ret
                exact ⟨show Ending.returned (.bool false) = .returned (.bool V) by rw [HF.out], below_drewN hx4 _⟩
              · obtain ⟨hq0, hq1⟩ := inB_iff.1 hi2
                obtain ⟨q, rfl⟩ : ∃ q : Nat, bslot = q := ⟨bslot.toNat, by omega⟩
                have hqm : q < m := by omega
                obtain ⟨b2, o2, hz2, hA2, _, hcell2⟩ := (ra_ext HSL.out hx4).at_ slt_len hqm
                rw [hi2, Bool.true_and, Int.toNat_natCast, List.getElem?_eq_getElem hz2] at hsb
                generalize l[q] = s at hcell2 hsb
                obtain ⟨sp, sfr, stt⟩ := s
                dsimp only at hsb
                have e1 : W4.cell? ⟨b2, o2 + q * 3 + 1, none⟩ = some (.int .i64 sfr) := hcell2 1 (by omega)
                have hqz : (q : Int) < (m : Int) := by omega
                rw [hi2] at HI2
                subst hA2
                clear hcell2 hz2 hi2 hq0 hq1 HSL
                by_cases hat : bat = sfr
                · subst hat
                  have hbn : (bat != bat) = false := by simp
                  rw [decide_eq_true rfl] at hsb
                  have HCK2 : Hid (ck = (restT T O ⟨bat, (p : Int), (q : Int), byes, bno⟩ 0 && chkR (opsP os) T (O ++ [mkB O ⟨bat, (p : Int), (q : Int), byes, bno⟩]) (T.drop (j + 1)))) := Lib.hid (by rw [HCK.out, hsb, Bool.true_and]; rfl)
                  clear hsb HCK
                  go_quiet (first | with_reducible exact Calls.quiet_of_same (HI1.out _) | with_reducible exact Calls.quiet_of_same (HI2.out _))
                  have hx5 : Ext w (W4.drewN nq) := below_drewN hx4 nq
                  have HZ5 := Lib.hid (HZ4.out.drewN nq)
                  have HJ5 := Lib.hid (HJ4.out.drewN nq)
                  have HJ95 := Lib.hid (HJ9.out.drewN nq)
                  generalize W4.drewN nq = W5 at hx5 HZ5 HJ5 HJ95 ⊢
                  clear d0 d1 d2 c8 e1 HZ4 HJ4 HJ9 HI1 HI2 hwn hwm hx4 hbn
                  have d1 : W5.cell? ⟨g9, 1, none⟩ = some (.int .i64 (p : Int)) := HJ95.out.cell 1
                  have hfz : W5.frozen? ⟨gz, j, none⟩ = false := HZ5.out.frozen j
                  have h8p : p ≤ 7 := by omega
                  obtain ⟨z, hz⟩ : ∃ z : Nat, z = 2 ^ p := ⟨_, rfl⟩
                  have hpw : IntKind.i64.wrap ((2 : Int) ^ p) = (z : Int) := by
                    have h1 : (2 : Nat) ^ p ≤ 128 := Nat.le_trans (Nat.pow_le_pow_right (by decide) h8p) (by decide)
                    have h2 : ((2 : Int) ^ p) = ((2 ^ p : Nat) : Int) := by simp
                    rw [h2, ← hz]
                    rw [← hz] at h1
                    exact IntWalk.i64_in _ (by omega)
                  have HZC : Hid (z = curT O ⟨bat, (p : Int), (q : Int), byes, bno⟩ 0) := Lib.hid hz
                  clear hz
                  have hpo0 : (0 : Int) ≤ (p : Int) := by omega
                  have hpo8 : (p : Int) ≤ 64 := by omega
                  have z0 : W5.cell? ⟨gz, j, none⟩ = some (.int .i64 0) := (HZ5.out.cell j).trans (cells_at (by subst hol; exact zarr_zero hjt))
                  go_upto_region 11 with (fail)
                  have J6 := HZ5.out.set_ j (.int .i64 (z : Int))
                  rw [cells_set] at J6
                  subst hol
                  rw [zarr_put hjt] at J6
                  have hg1 : g9 ≠ gz := by omega
                  have hg2 : gb ≠ gz := by omega
                  have HJ6 := Lib.hid (HJ5.out.far (p := ⟨gz, O.length, none⟩) hg2 (.int .i64 (z : Int)))
                  have J96 := HJ95.out.far (p := ⟨gz, O.length, none⟩) hg1 (.int .i64 (z : Int))
                  have hx6 := hx5.setCell (p := ⟨gz, O.length, none⟩) hgz (.int .i64 (z : Int))
                  generalize W5.setCell ⟨gz, O.length, none⟩ (.int .i64 (z : Int)) = W6 at J6 HJ6 J96 hx6 ⊢
                  have d3 : W6.cell? ⟨g9, 3, none⟩ = some (.int .i64 byes) := J96.cell 3
                  have d4 : W6.cell? ⟨g9, 4, none⟩ = some (.int .i64 bno) := J96.cell 4
                  have HJ96 := Lib.hid J96
                  have HZ6 := Lib.hid J6
                  clear d1 hfz z0 hpw HZ5 HJ5 HJ95 hx5 J6 J96
                  obtain ⟨br, hbr⟩ : ∃ br : Brn, br = ⟨bat, (p : Int), (q : Int), byes, bno⟩ := ⟨_, rfl⟩
                  rw [← hbr] at HCK2 HZC
                  have hk0 : br.no = bno := by rw [hbr]
                  have hk1 : br.yes = byes := by rw [hbr]
                  have hbt : br.at_ = bat := by rw [hbr]
                  have hbo : br.opt = (p : Int) := by rw [hbr]
                  have HBO := Lib.hid hbo
                  have HBT := Lib.hid hbt
                  have HK0 := Lib.hid hk0
                  have HK1 := Lib.hid hk1
                  rw [HZC.out] at HZ6
                  clear hbr hk0 hk1 hbt hbo HZC
                  go_wp2_with fail
                  clear d3 d4
                  go_loopw [96] (fun x wr => ∃ t : Nat, t ≤ 2 ∧ x = .int .i64 t ∧ Hid (ck = (restT T O br t && chkR (opsP os) T (O ++ [mkB O br]) (T.drop (O.length + 1)))) ∧ Hid (Blk wr gz 3 (intCells1 (zarr (O ++ [curT O br t]) tn))) ∧ Hid (Blk wr gb 33 #[.int .i64 k, .slice (some ⟨bT, oT, none⟩) tn tc]) ∧ Hid (Blk wr g9 30 #[.int .i64 bat, .int .i64 (p : Int), .int .i64 (q : Int), .int .i64 byes, .int .i64 bno]) ∧ Ext w wr) (fun x _ => 2 - (intOf x).toNat)
                  case atStart => exact ⟨0, Nat.zero_le _, rfl, HCK2, HZ6, HJ6, HJ96, hx6⟩
                  case round =>
                    clear HCK2 HZ6 HJ6 HJ96 hx6
                    obtain ⟨t, ht, rfl, HC, HZR, HJ, HJ9, hxq⟩ := hrel
                    by_cases ht2 : t < 2
                    · have h2z : (t : Int) < 2 := by omega
                      obtain ⟨kk, hkk⟩ : ∃ kk, kk = kT br t := ⟨_, rfl⟩
                      have hidx : ∀ W : World, (Instr.index 92 (.agg #[.int .i64 bno, .int .i64 byes]) (.int .i64 (t : Int))).run Try.prog W = .ok (.int .i64 kk) W := by
                        rw [hkk]
                        match t, ht2 with
                        | 0, _ => rw [← HK0.out]; exact idx0 _ _
                        | 1, _ => rw [← HK1.out]; exact idx1 _ _
                      have hck := HC.out
                      rw [restT_step ht2, ← hkk] at hck
                      have HCK := Lib.hid hck
                      have HKK := Lib.hid hkk
                      clear hck hkk HC
                      have hwo : IntKind.i64.wrap ((O.length : Int) - 1) = (O.length : Int) - 1 := IntWalk.i64_in _ (by omega)
                      have HI3 := Lib.hid (fun W => isIn_any kk (-1) ((O.length : Int) - 1) W)
                      have hok : okT T O br t kk = (inB kk (-1) ((O.length : Int) - 1) && (decide (kk = -1) || (decide (br.at_ < atB T kk) && !(decide (t = 1) && (O.getD kk.toNat 0).testBit br.opt.toNat)))) := rfl
                      cases hi3 : inB kk (-1) ((O.length : Int) - 1)
                      · rw [hi3] at HI3 hok
                        have hckf : ck = false := by rw [HCK.out, hok]; simp
                        have HF : Hid (V = false) := Lib.hid (by rw [HV.out, hckf]; rfl)
                        clear hckf hok hi3 HCK HKK
                        go_wp2_with (refine (HI3.out _).mono ?_; rintro e w2 ⟨rfl, rfl⟩)
                        go_ret
                        exact ⟨show Ending.returned (.bool false) = .returned (.bool V) by rw [HF.out], hxq⟩
                      · rw [hi3] at HI3 hok
                        have HI4 := Lib.hid hi3
                        clear hi3
                        by_cases hkm : kk = -1
                        · have hkb : (kk == -1) = true := by simpa using hkm
                          have HC3 : Hid (ck = (restT T O br (t + 1) && chkR (opsP os) T (O ++ [mkB O br]) (T.drop (O.length + 1)))) := Lib.hid (by rw [HCK.out, hok, hkm]; simp)
                          have hcu : curT O br (t + 1) = curT O br t := by
                            show curT O br t ||| vT O (kT br t) = _
                            rw [← HKK.out, hkm]
                            exact Nat.or_zero _
                          rw [← hcu] at HZR
                          clear hok HCK HKK hcu hkm
                          go_wp2_with (refine (HI3.out _).mono ?_; rintro e w2 ⟨rfl, rfl⟩)
                          go_roundw
                          case rel => exact ⟨t + 1, by omega, by go_num, HC3, HZR, HJ, HJ9, hxq⟩
                          case measure => simp [intOf]; omega
                        · have hkb : (kk == -1) = false := by simpa using hkm
                          have hkr := inB_iff.1 HI4.out
                          obtain ⟨r, rfl⟩ : ∃ r : Nat, kk = r := ⟨kk.toNat, by omega⟩
                          have hrO : r < O.length := by omega
                          have hrt : r < tn := by omega
                          have hrz : (r : Int) < (tn : Int) := by omega
                          obtain ⟨b3, o3, hz3, hA3, _, hc3⟩ := (ra_ext HT.out hxq).at_ brn_len hrt
                          injection hA3 with hA3
                          injection hA3 with q1 q2
                          subst q1 q2
                          have f0 : wr.cell? ⟨bT, oT + r * 5, none⟩ = some (.int .i64 T[r].at_) := hc3 0 (by omega)
                          have hatB : atB T (r : Int) = T[r].at_ := by unfold atB; rw [Int.toNat_natCast, List.getElem?_eq_getElem hz3]
                          generalize T[r].at_ = rat at f0 hatB
                          have g1 : wr.cell? ⟨gb, 1, none⟩ = some (.slice (some ⟨bT, oT, none⟩) tn tc) := HJ.out.cell 1
                          have d0 : wr.cell? ⟨g9, 0, none⟩ = some (.int .i64 bat) := HJ9.out.cell 0
                          have d1 : wr.cell? ⟨g9, 1, none⟩ = some (.int .i64 (p : Int)) := HJ9.out.cell 1
                          rw [hatB, HBT.out, decide_eq_false hkm, Bool.true_and, Bool.false_or] at hok
                          have HOK := Lib.hid hok
                          clear hok hatB hc3 hz3 hkr
                          go_upto_region 17 with (refine (HI3.out _).mono ?_; rintro e w2 ⟨rfl, rfl⟩)
                          by_cases hab : bat < rat
                          · have hle3 : decide (rat ≤ bat) = false := by simpa using hab
                            have hsb : (O.getD r 0) < 256 := by
                              rw [List.getD_eq_getElem?_getD, List.getElem?_eq_getElem hrO]
                              exact HB.out _ (List.getElem_mem hrO)
                            have v0 : wr.cell? ⟨gz, r, none⟩ = some (.int .i64 ((O.getD r 0 : Nat) : Int)) := by
                              have h1 := (HZR.out.cell r).trans (cells_at (zarr_at (n := tn) (show r < (O ++ [curT O br t]).length by simp; omega)))
                              rw [List.getD_eq_getElem?_getD, List.getElem?_append_left hrO, ← List.getD_eq_getElem?_getD] at h1
                              exact h1
                            have hbit := bit_i64 ⟨O.getD r 0, hsb⟩ ⟨p, by omega⟩
                            dsimp only at hbit
                            have HVT : Hid (vT O (r : Int) = O.getD r 0) := Lib.hid (by unfold vT; rw [if_neg hkm, Int.toNat_natCast])
                            have hok2 := HOK.out
                            rw [decide_eq_true hab, Int.toNat_natCast, HBO.out, Int.toNat_natCast, Bool.true_and] at hok2
                            generalize O.getD r 0 = S at hsb v0 hbit HVT hok2
                            have HOK2 := Lib.hid hok2
                            have hpo0 : (0 : Int) ≤ (p : Int) := by omega
                            have hpo8 : (p : Int) ≤ 64 := by omega
                            clear hok2 HOK hkm hab
                            by_cases ht1 : t = 1
                            · have htb : ((t : Int) == 1) = true := by rw [ht1]; rfl
                              cases hbt : S.testBit p
                              · rw [hbt, if_neg (by simp)] at hbit
                                have HC3 : Hid (ck = (restT T O br (t + 1) && chkR (opsP os) T (O ++ [mkB O br]) (T.drop (O.length + 1)))) := Lib.hid (by rw [HCK.out, HOK2.out, hbt]; simp)
                                go_quiet (fail)
                                have HCU : Hid (curT O br (t + 1) = curT O br t ||| S) := Lib.hid (by
                                  show curT O br t ||| vT O (kT br t) = _
                                  rw [← HKK.out, HVT.out])
                                have hx7 : Ext w (wr.drewN nq) := below_drewN hxq nq
                                have HZ7 := Lib.hid (HZR.out.drewN nq)
                                have HJ7 := Lib.hid (HJ.out.drewN nq)
                                have HJ97 := Lib.hid (HJ9.out.drewN nq)
                                have v7 : (wr.drewN nq).cell? ⟨gz, r, none⟩ = some (.int .i64 (S : Int)) := v0
                                generalize wr.drewN nq = W7 at hx7 HZ7 HJ7 HJ97 v7 ⊢
                                have hcl : curT O br t < 256 := curT_lt HB.out (by rw [HBO.out]; simpa using (show p < 8 by omega)) t
                                have c7 : W7.cell? ⟨gz, O.length, none⟩ = some (.int .i64 ((curT O br t : Nat) : Int)) := (HZ7.out.cell O.length).trans (cells_at (by rw [zarr_at (by simp)]; simp))
                                have hor := or2_i64 hcl hsb
                                have HJZ := Lib.hid (HZ7.out.set_ O.length (.int .i64 ((curT O br t ||| S : Nat) : Int)))
                                rw [cells_set, zarr_set, ← HCU.out] at HJZ
                                rw [← HCU.out] at hor
                                clear HCU
                                obtain ⟨C2, hC2⟩ : ∃ C2, C2 = curT O br (t + 1) := ⟨_, rfl⟩
                                rw [← hC2] at hor HJZ
                                have HC2 := Lib.hid hC2
                                clear hC2
                                generalize curT O br t = C1 at hor c7
                                have hfz7 : W7.frozen? ⟨gz, O.length, none⟩ = false := HZ7.out.frozen O.length
                                have hg1 : g9 ≠ gz := by omega
                                have hg2 : gb ≠ gz := by omega
                                have HJ8 := Lib.hid (HJ7.out.far (p := ⟨gz, O.length, none⟩) hg2 (.int .i64 (C2 : Int)))
                                have HJ98 := Lib.hid (HJ97.out.far (p := ⟨gz, O.length, none⟩) hg1 (.int .i64 (C2 : Int)))
                                have HX8 := Lib.hid (hx7.setCell (p := ⟨gz, O.length, none⟩) hgz (.int .i64 (C2 : Int)))
                                clear HZ7 HJ7 HJ97 hx7 HZR HJ HJ9 hxq f0 g1 d0 d1 v0 hbit htb hle3 hsb hcl HCK HKK HOK2 HVT
                                go_upto_region 19 with (fail)
                                go_region
                                have HX9 := Lib.hid HX8.out.drew
                                have HZ9 := Lib.hid HJZ.out.drew
                                have HJ9 := Lib.hid HJ8.out.drew
                                have HJ99 := Lib.hid HJ98.out.drew
                                rw [HC2.out] at HZ9 HJ9 HJ99 HX9 ⊢
                                clear HX8 HJZ HJ8 HJ98 v7 c7 hor hfz7
                                generalize (W7.setCell ⟨gz, O.length, none⟩ (.int .i64 ((curT O br (t + 1) : Nat) : Int))).drew = W9 at HX9 HZ9 HJ9 HJ99 ⊢
                                go_wp2
                                go_roundw
                                case rel => exact ⟨t + 1, by omega, by go_num, HC3, HZ9, HJ9, HJ99, HX9.out⟩
                                case measure => simp [intOf]; omega
                              · rw [hbt, if_pos rfl] at hbit
                                have hckf : ck = false := by rw [HCK.out, HOK2.out, hbt, decide_eq_true ht1]; rfl
                                have HF : Hid (V = false) := Lib.hid (by rw [HV.out, hckf]; rfl)
                                clear hckf HOK2 HCK HKK HV ht1
                                go_quiet (fail)
                                go_wp2
                                go_ret
                                exact ⟨show Ending.returned (.bool false) = .returned (.bool V) by rw [HF.out], below_drewN hxq _⟩
                            · have htb : ((t : Int) == 1) = false := by
                                have : ¬ (t : Int) = 1 := by omega
                                simpa using this
                              have HC3 : Hid (ck = (restT T O br (t + 1) && chkR (opsP os) T (O ++ [mkB O br]) (T.drop (O.length + 1)))) := Lib.hid (by rw [HCK.out, HOK2.out, decide_eq_false ht1]; simp)
                              go_quiet (fail)
                              have HCU : Hid (curT O br (t + 1) = curT O br t ||| S) := Lib.hid (by
                                show curT O br t ||| vT O (kT br t) = _
                                rw [← HKK.out, HVT.out])
                              have hx7 : Ext w (wr.drewN nq) := below_drewN hxq nq
                              have HZ7 := Lib.hid (HZR.out.drewN nq)
                              have HJ7 := Lib.hid (HJ.out.drewN nq)
                              have HJ97 := Lib.hid (HJ9.out.drewN nq)
                              have v7 : (wr.drewN nq).cell? ⟨gz, r, none⟩ = some (.int .i64 (S : Int)) := v0
                              generalize wr.drewN nq = W7 at hx7 HZ7 HJ7 HJ97 v7 ⊢
                              have hcl : curT O br t < 256 := curT_lt HB.out (by rw [HBO.out]; simpa using (show p < 8 by omega)) t
                              have c7 : W7.cell? ⟨gz, O.length, none⟩ = some (.int .i64 ((curT O br t : Nat) : Int)) := (HZ7.out.cell O.length).trans (cells_at (by rw [zarr_at (by simp)]; simp))
                              have hor := or2_i64 hcl hsb
                              have HJZ := Lib.hid (HZ7.out.set_ O.length (.int .i64 ((curT O br t ||| S : Nat) : Int)))
                              rw [cells_set, zarr_set, ← HCU.out] at HJZ
                              rw [← HCU.out] at hor
                              clear HCU
                              obtain ⟨C2, hC2⟩ : ∃ C2, C2 = curT O br (t + 1) := ⟨_, rfl⟩
                              rw [← hC2] at hor HJZ
                              have HC2 := Lib.hid hC2
                              clear hC2
                              generalize curT O br t = C1 at hor c7
                              have hfz7 : W7.frozen? ⟨gz, O.length, none⟩ = false := HZ7.out.frozen O.length
                              have hg1 : g9 ≠ gz := by omega
                              have hg2 : gb ≠ gz := by omega
                              have HJ8 := Lib.hid (HJ7.out.far (p := ⟨gz, O.length, none⟩) hg2 (.int .i64 (C2 : Int)))
                              have HJ98 := Lib.hid (HJ97.out.far (p := ⟨gz, O.length, none⟩) hg1 (.int .i64 (C2 : Int)))
                              have HX8 := Lib.hid (hx7.setCell (p := ⟨gz, O.length, none⟩) hgz (.int .i64 (C2 : Int)))
                              clear HZ7 HJ7 HJ97 hx7 HZR HJ HJ9 hxq f0 g1 d0 d1 v0 hbit htb hle3 hsb hcl HCK HKK HOK2 HVT
                              go_upto_region 19 with (fail)
                              go_region
                              have HX9 := Lib.hid HX8.out.drew
                              have HZ9 := Lib.hid HJZ.out.drew
                              have HJ9 := Lib.hid HJ8.out.drew
                              have HJ99 := Lib.hid HJ98.out.drew
                              rw [HC2.out] at HZ9 HJ9 HJ99 HX9 ⊢
                              clear HX8 HJZ HJ8 HJ98 v7 c7 hor hfz7
                              generalize (W7.setCell ⟨gz, O.length, none⟩ (.int .i64 ((curT O br (t + 1) : Nat) : Int))).drew = W9 at HX9 HZ9 HJ9 HJ99 ⊢
                              go_wp2
                              go_roundw
                              case rel => exact ⟨t + 1, by omega, by go_num, HC3, HZ9, HJ9, HJ99, HX9.out⟩
                              case measure => simp [intOf]; omega
                          · have hle3 : decide (rat ≤ bat) = true := by simpa using hab
                            have hckf : ck = false := by rw [HCK.out, HOK.out, decide_eq_false hab]; simp
                            have HF : Hid (V = false) := Lib.hid (by rw [HV.out, hckf]; rfl)
                            clear hckf HOK HCK HKK HV
                            go_quiet (fail)
                            go_wp2
                            go_ret
                            exact ⟨show Ending.returned (.bool false) = .returned (.bool V) by rw [HF.out], below_drewN hxq _⟩
                    · obtain rfl : t = 2 := by omega
                      rw [curT_2] at HZR
                      have HC2 : Hid (ck = chkR (opsP os) T (O ++ [mkB O br]) (T.drop (O.length + 1))) := Lib.hid (by rw [HC.out]; rfl)
                      have HB2 : Hid (∀ y ∈ O ++ [mkB O br], y < 256) := Lib.hid (ors_lt HB.out (by rw [HBO.out]; simpa using (show p < 8 by omega)))
                      have hol3 : (O ++ [mkB O br]).length = O.length + 1 := by simp
                      clear HC HB HBO HBT HK0 HK1
                      go_wp2
                      go_roundw
                      case rel => exact ⟨O.length + 1, O ++ [mkB O br], by omega, by go_num, hol3, HB2, HC2, HZR, HJ, hxq⟩
                      case measure => simp [intOf]; omega
                · have hbn : (bat != sfr) = true := by simpa using hat
                  rw [decide_eq_false hat] at hsb
                  have hckf : ck = false := by rw [HCK.out, hsb]; simp
                  have HF : Hid (V = false) := Lib.hid (by rw [HV.out, hckf]; rfl)
                  clear hsb hckf HCK HV
                  go_quiet (first | with_reducible exact Calls.quiet_of_same (HI1.out _) | with_reducible exact Calls.quiet_of_same (HI2.out _))
                  go_wp2
                  go_ret
                  exact ⟨show Ending.returned (.bool false) = .returned (.bool V) by rw [HF.out], below_drewN hx4 _⟩
          · have hdn : T.drop j = [] := List.drop_of_length_le (by have := HLT.out; omega)
            have hck : ck = true := by rw [HC.out, hdn]; rfl
            have hD := HDN.out hck
            have hVZ : V = Z := by rw [HV.out, hck]; rfl
            have b0 : wr.cell? ⟨gb, 0, none⟩ = some (.int .i64 k) := HJ.out.cell 0
            have b1 : wr.cell? ⟨gb, 1, none⟩ = some (.slice TA tn tc) := HJ.out.cell 1
            have hkb := inB_iff.1 HIK.out
            have hrep : Rep T k (unf T k) := unf_of hD hkb.1 (by rw [HLT.out]; omega)
            have hlf := fun (W : World) (hq : Ext w W) => left_any T TA tn tc k k (unf T k) W (ra_ext HT.out hq) hD (by rw [HLT.out]; exact h15) hrep
            obtain ⟨X, hX⟩ : ∃ X, X = bld [] (unf T k) := ⟨_, rfl⟩
            have hz : decide (X.2 = k ∧ X.1 = T) = Z := by
              rw [HZ1.out, ← hX]
              obtain ⟨X1, X2⟩ := X
              simp only [Prod.mk.injEq, and_comm]
            rw [← hX] at hlf
            obtain ⟨X1, X2⟩ := X
            dsimp only at hz
            have hsm := fun (W : World) (A' : Option Addr) (n' c' : Nat) (hq : Ext w W) (h : RA brnCells 5 W W.heap.size A' n' c' X1) => same_any X2 k A' TA n' tn c' tc X1 T W h (ra_ext HT.out hq)
            rw [hz] at hsm
            have HLF := Lib.hid hlf
            have HSM := Lib.hid hsm
            have HVZ := Lib.hid hVZ
            clear hX hz hlf hsm hVZ hrep hD hck hdn HC HV HDN HZ1 HZR HIK HIN
            go_upto_region 22 with (fail)
            refine wp_region_obl 7 (fun ix vals v w1 => match ix with | 0 => v = .agg #[.int .i64 k, .slice TA tn tc] | 1 => v = .pointer (some ⟨gb, 0, none⟩) | 2 => v = .int .i64 k | 3 => ∃ A' n' c', v = .agg #[.int .i64 X2, .slice A' n' c'] ∧ RA brnCells 5 w1 w1.heap.size A' n' c' X1 | 4 => v = .agg #[.int .i64 k, .slice TA tn tc] | 5 => v = .bool Z | _ => v = .bool Z) (by kernel_rfl) (by kernel_rfl) ?_ ?_ ?_ ?_
            · intro ix vals v w1 w2 hi hr hx
              match ix, hr with
              | 0, hr => exact hr
              | 1, hr => exact hr
              | 2, hr => exact hr
              | 3, hr => obtain ⟨A', n', c', h1, h2⟩ := hr; exact ⟨A', n', c', h1, ra_ext h2 hx⟩
              | 4, hr => exact hr
              | 5, hr => exact hr
              | (kx + 6), hr => exact hr
            · intro ix vals vals_ v w1 hi hv hr
              exact hr
            · refine ⟨?_, ?_, ?_, ?_, ?_, ?_, ?_, trivial⟩
              · intro vals w1 hx hd ha
                clear hd ha
                simp only [Lf]
                have b0 := ext_cell hx b0
                have b1 := ext_cell hx b1
                go_wp2
                exact ⟨rfl, Ext.refl _, rfl⟩
              · intro vals w1 hx hd ha
                clear hd ha
                simp only [Lf, dstAt, Act.put, List.getElem?_toArray, List.getElem?_cons_zero, Option.bind_some, List.setIfInBounds_toArray, List.set_cons_zero, List.set_cons_succ]
                go_wp2
                exact ⟨rfl, Ext.refl _, rfl⟩
              · intro vals w1 hx hd ha
                have e1 : vals 1 = .pointer (some ⟨gb, 0, none⟩) := hd 1 (by decide)
                clear hd ha
                simp only [Lf, dstAt, Act.put, List.getElem?_toArray, List.getElem?_cons_zero, List.getElem?_cons_succ, Option.bind_some, List.setIfInBounds_toArray, List.set_cons_zero, List.set_cons_succ]
                simp only [e1]
                clear e1
                have b0 := ext_cell hx b0
                go_wp2
                exact ⟨rfl, Ext.refl _, rfl⟩
              · intro vals w1 hx hd ha
                have e0 : vals 0 = .agg #[.int .i64 k, .slice TA tn tc] := hd 0 (by decide)
                have e2 : vals 2 = .int .i64 k := hd 2 (by decide)
                clear hd ha
                simp only [Lf, dstAt, Act.put, List.getElem?_toArray, List.getElem?_cons_zero, List.getElem?_cons_succ, Option.bind_some, List.setIfInBounds_toArray, List.set_cons_zero, List.set_cons_succ]
                simp only [e0]
                simp only [e2]
                clear e0 e2
                have HL := Lib.hid (HLF.out w1 (Ext.trans hxq hx.undrew))
                go_wp2_with fail
                refine HL.out.mono ?_
                rintro e w2 ⟨v, rfl, ho, hy⟩
                dsimp only at ho ⊢
                obtain ⟨A9, k9, rfl, _, _⟩ := own_slice ho
                have h1 := Lib.hid (RA.of_own2 ho rfl)
                clear ho
                go_wp2
                exact ⟨rfl, hy, A9, _, k9, rfl, h1.out⟩
              · intro vals w1 hx hd ha
                clear hd ha
                simp only [Lf, dstAt, Act.put, List.getElem?_toArray, List.getElem?_cons_zero, List.getElem?_cons_succ, Option.bind_some, List.setIfInBounds_toArray, List.set_cons_zero, List.set_cons_succ]
                have b0 := ext_cell hx b0
                have b1 := ext_cell hx b1
                go_wp2
                exact ⟨rfl, Ext.refl _, rfl⟩
              · intro vals w1 hx hd ha
                have r3 : (fun v w1 => ∃ A' n' c', v = .agg #[.int .i64 X2, .slice A' n' c'] ∧ RA brnCells 5 w1 w1.heap.size A' n' c' X1) (vals 3) w1 := hd 3 (by decide)
                dsimp only at r3
                have e4 : vals 4 = .agg #[.int .i64 k, .slice TA tn tc] := hd 4 (by decide)
                clear hd ha
                simp only [Lf, dstAt, Act.put, List.getElem?_toArray, List.getElem?_cons_zero, List.getElem?_cons_succ, Option.bind_some, List.setIfInBounds_toArray, List.set_cons_zero, List.set_cons_succ]
                simp only [e4]
                clear e4
                obtain ⟨A', n', c', e_3, h3⟩ := r3
                rw [e_3]
                have HS := Lib.hid (HSM.out w1 A' n' c' (Ext.trans hxq hx.undrew) h3)
                clear h3
                go_wp2_with fail
                refine HS.out.mono ?_
                rintro e w2 ⟨rfl, hy⟩
                go_wp2
                exact ⟨rfl, hy, rfl⟩
              · intro vals w1 hx hd ha
                have e0 : vals 0 = .agg #[.int .i64 k, .slice TA tn tc] := hd 0 (by decide)
                have e1 : vals 1 = .pointer (some ⟨gb, 0, none⟩) := hd 1 (by decide)
                have e2 : vals 2 = .int .i64 k := hd 2 (by decide)
                have r3 : (fun v w1 => ∃ A' n' c', v = .agg #[.int .i64 X2, .slice A' n' c'] ∧ RA brnCells 5 w1 w1.heap.size A' n' c' X1) (vals 3) w1 := hd 3 (by decide)
                dsimp only at r3
                have e4 : vals 4 = .agg #[.int .i64 k, .slice TA tn tc] := hd 4 (by decide)
                have e5 : vals 5 = .bool Z := hd 5 (by decide)
                clear hd ha
                simp only [Lf, dstAt, Act.put, List.getElem?_toArray, List.getElem?_cons_zero, List.getElem?_cons_succ, Option.bind_some, List.setIfInBounds_toArray, List.set_cons_zero, List.set_cons_succ]
                simp only [e0, e1, e2, e4, e5]
                clear e0 e1 e2 e4 e5
                go_wp2
                exact ⟨rfl, Ext.refl _, rfl⟩
            intro vals W5 hx5 hf
            have e6 : vals 6 = .bool Z := hf 6 (by omega)
            clear hf
            have hx5 := Ext.trans hxq hx5.undrew
            refine tail0 (by kernel_rfl) ?_
            simp only [Lf, dstAt, Act.put, List.getElem?_toArray, List.getElem?_cons_zero, List.getElem?_cons_succ, Option.bind_some, List.setIfInBounds_toArray, List.set_cons_zero, List.set_cons_succ]
            rw [e6]
            clear e6
            go_wp2
            go_ret
            exact ⟨show Ending.returned (.bool Z) = .returned (.bool V) by rw [HVZ.out], hx5⟩
    · have h15z : (1500 : Int) < (tn : Int) := by omega
      have HF : Hid (V = false) := Lib.hid (by rw [HV.out, decide_eq_false h15]; simp)
      clear HV HC8
      go_wp2
      go_ret
      exact ⟨show Ending.returned (.bool false) = .returned (.bool V) by rw [HF.out], hx2⟩
end Go.Proofs.Ytikphbgfcpamgaa
