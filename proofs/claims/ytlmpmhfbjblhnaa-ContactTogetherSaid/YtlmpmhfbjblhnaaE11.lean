/- ContactTogether: the walk (printed by contact_e11.py). -/
import Derived.Test.YtlmpmhfbjblhnaaD1
import Derived.Test.YtlmpmhfbjblhnaaP9
import Derived.Test.YtlmpmhfbjblhnaaTn2
import Derived.Test.YtlmpmhfbjblhnaaReg7
import Derived.BigQuiet
namespace Go.Proofs.Ytlmpmhfbjblhnaa
open Go.RowKit

theorem pas_sizeT : (Try.prog.info? 47).map (·.size) = some 6 := by kernel_rfl
theorem pas_oneT (x : Pas) : (pasCells x).toArray.all (·.oneCell') = true := by simp [pasCells, Value.oneCell']
theorem info_pas2T : (Try.prog.info? 47).map (fun i => (i.zero.map (fun z => z.cells.size), i.size)) = some (some 6, 6) := by kernel_rfl
theorem RA.sub {α : Type} {cells : α → List Value} {s : Nat} (hs : ∀ x, (cells x).length = s) {w : World} {B n c b o : Nat} {l : List α} (h : RA cells s w B (some ⟨b, o, none⟩) n c l) {k : Nat} (hk : k < n) (hz : k < l.length) : RA cells s w B (some ⟨b, o + k * s, none⟩) 1 (c - k) [l[k]] := by
  obtain ⟨b', o', hz', hA, hb, hr⟩ := h.range hs hk
  injection hA with hA
  injection hA with h1 h2
  subst h1 h2
  have h3 := h.cap
  have h4 := h.capM
  exact ⟨⟨by simp [hs], fun _ => ⟨b, o + k * s, rfl, hb, fun j u hu => hr j u (by simpa using hu)⟩⟩, rfl, by omega, by omega, by omega⟩
theorem passes_form {n : Nat} {l : List Pas} {w w' : World} {e : Ending} (h : PassesRet (if n ≤ 64 then some l else none) w e w') : ∃ (v : Value) (er : Int), e = .returned (.tuple #[v, .int .i64 er]) ∧ Ext w w' ∧ ((er = 0 ∧ n ≤ 64 ∧ w'.ownsRow w.heap.size 47 6 v l.length (l.flatMap pasCells)) ∨ (er = 90 ∧ ¬ n ≤ 64)) := by
  by_cases h64 : n ≤ 64
  · rw [if_pos h64] at h
    obtain ⟨v, rfl, h1, h2⟩ := h
    exact ⟨v, 0, rfl, h2, .inl ⟨rfl, h64, h1⟩⟩
  · rw [if_neg h64] at h
    obtain ⟨rfl, h2⟩ := h
    exact ⟨_, 90, rfl, h2, .inr ⟨rfl, h64⟩⟩
/-- What one call for a pair hands back, its error known ahead. -/
def OneRet (n : Nat) (l : List Pas) (er : Int) (w : World) (e : Ending) (w' : World) : Prop := ∃ z, e = .returned (.tuple #[z, .int .i64 er]) ∧ (n ≤ 64 → w'.ownsRow w.heap.size 47 6 z l.length (l.flatMap pasCells)) ∧ Ext w w'
theorem one_form {n : Nat} {l : List Pas} {er : Int} (her : (n ≤ 64 ∧ er = 0) ∨ (¬ n ≤ 64 ∧ er = 90)) {w w' : World} {e : Ending} (h : PassesRet (if n ≤ 64 then some l else none) w e w') : OneRet n l er w e w' := by
  obtain ⟨v, er', rfl, hx, hc⟩ := passes_form h
  rcases hc with ⟨h1, h2, h3⟩ | ⟨h1, h2⟩
  · obtain rfl : er = er' := by omega
    exact ⟨v, rfl, fun _ => h3, hx⟩
  · obtain rfl : er = er' := by omega
    exact ⟨v, rfl, fun h => absurd h h2, hx⟩
set_option maxRecDepth 100000 in
set_option maxHeartbeats 16000000 in
theorem together_walk (AX AY AZ : Option Addr) (nx cx ny cy nz cz : Nat) (x : List A7) (y z : List A4) (fr0 lg0 : Int) (w : World) (hax : RA a7Cells 7 w w.heap.size AX nx cx x) (hay : RA a4Cells 4 w w.heap.size AY ny cy y) (haz : RA a4Cells 4 w w.heap.size AZ nz cz z) (okx : ∀ a ∈ x, a.ok) (oky : ∀ a ∈ y, a.ok) (okz : ∀ a ∈ z, a.ok) (bf : I64ok fr0) (bl : I64ok lg0) :
    Calls Try.prog 9 #[.slice AX nx cx, .slice AY ny cy, .slice AZ nz cz, .int .i64 fr0, .int .i64 lg0] w (Tru w) := by
  have hm1 := satsP_len x y
  have hm2 := stnsP_len z
  have hS := satsP_get x y
  have hT := stnsP_get z
  have hSO := satsP_OK x y
  have hTO := stnsP_OK z
  have HSATS : Hid (∀ W, Ext w W → Calls Try.prog 11 #[.slice AX nx cx, .slice AY ny cy] W (ListRet satCells 21 27 (satsP x y) W)) := Lib.hid (fun W hW => sats_any AX AY nx cx ny cy x y W ((hax.below hW).more hW.size) ((hay.below hW).more hW.size) okx oky)
  have HSTNS : Hid (∀ W, Ext w W → Calls Try.prog 12 #[.slice AZ nz cz] W (ListRet stnCells 6 31 (stnsP z) W)) := Lib.hid (fun W hW => stations_any AZ nz cz z W ((haz.below hW).more hW.size) okz)
  generalize satsP x y = SL at hm1 HSATS hS hSO
  generalize stnsP z = TL at hm2 HSTNS hT hTO
  clear hax hay haz okx oky okz
  obtain ⟨ms, hms⟩ : ∃ n, n = SL.length := ⟨_, rfl⟩
  obtain ⟨mt, hmt⟩ : ∃ n, n = TL.length := ⟨_, rfl⟩
  rw [← hms] at hm1
  rw [← hmt] at hm2
  have HMS := Lib.hid hms
  have HMT := Lib.hid hmt
  have HS := Lib.hid hS
  have HT := Lib.hid hT
  have HSO := Lib.hid hSO
  have HTO := Lib.hid hTO
  clear hms hmt hS hT hSO hTO
  have P1 := fun w => lpick_any fr0 999600 w bf.1 bf.2 (by omega) (by omega)
  have q1 := pickI_bd fr0 999600 (by omega)
  generalize pickI fr0 999600 = k1 at P1 q1
  obtain ⟨q1a, q1b⟩ := q1
  have HP1 := Lib.hid P1
  clear P1
  have P2 := fun w => lpick_any lg0 300 w bl.1 bl.2 (by omega) (by omega)
  have q2 := pickI_bd lg0 300 (by omega)
  generalize pickI lg0 300 = k2 at P2 q2
  obtain ⟨q2a, q2b⟩ := q2
  have HP2 := Lib.hid P2
  clear P2
  obtain ⟨a, ha⟩ : ∃ a, a = k1 := ⟨_, rfl⟩
  subst ha
  obtain ⟨b, hb⟩ : ∃ b, b = a + 1 + k2 := ⟨_, rfl⟩
  have ab1 : a < b := by omega
  have ab2 : b ≤ a + 300 := by omega
  have HBB := Lib.hid hb
  clear hb
  have hspan : spanOK ⟨a, b⟩ = true := by simp [spanOK]; omega
  have HSPAN := Lib.hid hspan
  clear hspan
  obtain ⟨AL, hAL⟩ : ∃ l, l = sortP (ltOf cmpPas) (allP SL TL ⟨a, b⟩) := ⟨_, rfl⟩
  obtain ⟨nA, hnA⟩ : ∃ n, n = AL.length := ⟨_, rfl⟩
  have hnA2 : (allP SL TL ⟨a, b⟩).length = nA := by rw [hnA, hAL, len_sortP]
  have HPS : Hid (∀ (w : World) (S_ T_ : Option Addr) (cs ct : Nat), RA satCells 21 w w.heap.size S_ ms cs SL → RA stnCells 6 w w.heap.size T_ mt ct TL → Calls Try.prog 31 #[.slice S_ ms cs, .slice T_ mt ct, .agg #[.int .i64 a, .int .i64 b]] w (PassesRet (if nA ≤ 64 then some AL else none) w)) := Lib.hid (fun w S_ T_ cs ct K1 K2 => by
    have h := Passes_all SL TL S_ T_ ms cs mt ct a b w K1 K2
    rw [passesP, HSPAN.out, HSO.out, HTO.out, hnA2, ← hAL] at h
    exact h)
  have HAL := Lib.hid hAL
  have HNA := Lib.hid hnA
  have HNA2 := Lib.hid hnA2
  clear hAL hnA hnA2
  go_enter Try.func9, Try.ntmps9
  go_wp2_with fail
  have hB : Ext w w := Ext.refl _
  refine (sane_any _).mono ?_
  rintro e W1 ⟨rfl, hx⟩
  have hB := Ext.trans hB hx
  clear hx
  go_wp2_with (fail)
  refine (HSATS.out _ hB).mono ?_
  rintro e W2 ⟨v11, rfl, hown, hx⟩
  have hB := Ext.trans hB hx
  clear hx
  rw [← HMS.out] at hown
  obtain ⟨AHRS, cHRS, hv, _, _⟩ := own_slice hown
  subst hv
  have HRS := Lib.hid (RA.of_own (cells := satCells) hown HMS.out.symm (by omega))
  clear hown
  go_wp2_with (fail)
  refine (HSTNS.out _ hB).mono ?_
  rintro e W3 ⟨v12, rfl, hown, hx⟩
  have hB := Ext.trans hB hx
  have HRS := Lib.hid ((HRS.out.below hx).more (Below.size hx))
  clear hx
  rw [← HMT.out] at hown
  obtain ⟨AHRT, cHRT, hv, _, _⟩ := own_slice hown
  subst hv
  have HRT := Lib.hid (RA.of_own (cells := stnCells) hown HMT.out.symm (by omega))
  clear hown
  clear HSATS HSTNS
  go_wp2_with (fail)
  refine (HP1.out _).mono ?_
  rintro e w2 ⟨rfl, rfl⟩
  go_upto_region 6 with (fail)
  have HRS0 := HRS
  have HRT0 := HRT
  have hx6 : Ext W3 W3 := Ext.refl _
  have J13 : Blk (W3.alloc (.cells #[.int .i64 a, .int .i64 0] 34)) W3.heap.size 34 #[.int .i64 a, .int .i64 0] := Blk.new _ _ _
  have hx : Ext W3 (W3.alloc (.cells #[.int .i64 a, .int .i64 0] 34)) := bl_alloc (Below.refl _ _) _
  obtain ⟨g13, hg⟩ : ∃ g, g = W3.heap.size := ⟨_, rfl⟩
  have n6 : W3.heap.size ≤ g13 := by omega
  have n_w_J13 : w.heap.size ≤ g13 := by have := hB.size; omega
  rw [← hg] at J13 ⊢
  generalize W3.alloc (.cells #[.int .i64 a, .int .i64 0] 34) = W6 at J13 hx ⊢
  have hB := Ext.trans hB hx
  have HRS := Lib.hid ((HRS.out.below hx).more (Below.size hx))
  have HRT := Lib.hid ((HRT.out.below hx).more (Below.size hx))
  have hx6 := Ext.trans hx6 hx
  clear hx
  clear hg
  have t0 : W6.cell? ⟨g13, 0, none⟩ = some (.int .i64 a) := J13.cell 0
  have w1_ : IntKind.i64.wrap (a + 1) = a + 1 := IntWalk.i64_in _ (by omega)
  have w2_ : IntKind.i64.wrap (a + 1 + k2) = b := by rw [HBB.out]; exact IntWalk.i64_in _ (by omega)
  refine wp_region_obl 7 (fun ix vals v w1 => match ix with | 0 => v = .pointer (some ⟨g13, 0, none⟩) | 1 => v = .int .i64 a | 2 => v = .int .i64 (a + 1) | 3 => v = .int .i64 lg0 | 4 => v = .int .i64 k2 | 5 => v = .int .i64 b | _ => v = .pointer (some ⟨g13, 1, none⟩)) (by kernel_rfl) (by kernel_rfl) ?_ ?_ ?_ ?_
  · intro ix vals v w1 w2 hi hr hx
    match ix, hr with
    | 0, hr => exact hr
    | 1, hr => exact hr
    | 2, hr => exact hr
    | 3, hr => exact hr
    | 4, hr => exact hr
    | 5, hr => exact hr
    | (kx + 6), hr => exact hr
  · intro ix vals vals_ v w1 hi hv hr
    exact hr
  · refine obls_ofT [some 33, some 34, some 35, some 36, some 37, some 38, some 39, none] [(13, .pointer (some ⟨g13, 0, none⟩)), (4, .int .i64 lg0)] 145 (by kernel_rfl) (by kernel_rfl) ⟨by kernel_rfl, by kernel_rfl, trivial⟩ ?_
    refine ⟨?_, ?_, ?_, ?_, ?_, ?_, ?_, trivial⟩
    · intro vals w1 hx hd
      refine .run [(13, .pointer (some ⟨g13, 0, none⟩))] { dst := some 0, op := Go.Op.fieldAddr 34 (Go.Operand.const (.pointer (some ⟨g13, 0, none⟩))) 0, type := 0, pos := "", after := #[], guard := none } 33 ⟨.out (by kernel_rfl) (by kernel_rfl), trivial⟩ (by kernel_rfl) (by kernel_rfl) (by kernel_rfl) rfl rfl rfl ?_
      clear hd
      go_wp2
      exact ⟨rfl, Ext.refl _, rfl⟩
    · intro vals w1 hx hd
      have e0 : vals 0 = .pointer (some ⟨g13, 0, none⟩) := hd 0 (by decide)
      refine .run [(33, .pointer (some ⟨g13, 0, none⟩))] { dst := some 0, op := Go.Op.load 3 (Go.Operand.const (.pointer (some ⟨g13, 0, none⟩))), type := 3, pos := "", after := #[], guard := none } 34 ⟨.inn 0 (by kernel_rfl) e0, trivial⟩ (by kernel_rfl) (by kernel_rfl) (by kernel_rfl) rfl rfl rfl ?_
      clear hd e0
      have t0 := ext_cell hx t0
      go_wp2
      exact ⟨rfl, Ext.refl _, rfl⟩
    · intro vals w1 hx hd
      have e1 : vals 1 = .int .i64 a := hd 1 (by decide)
      refine .run [(34, .int .i64 a)] { dst := some 0, op := Go.Op.binOp Go.BinOp.add 3 (Go.Operand.const (.int .i64 a)) (Go.Operand.const (Go.Value.int Go.IntKind.i64 1)) 3, type := 3, pos := "", after := #[], guard := none } 35 ⟨.inn 1 (by kernel_rfl) e1, trivial⟩ (by kernel_rfl) (by kernel_rfl) (by kernel_rfl) rfl rfl rfl ?_
      clear hd e1
      go_wp2
      exact ⟨rfl, Ext.refl _, rfl⟩
    · intro vals w1 hx hd
      refine .run [(4, .int .i64 lg0)] { dst := some 0, op := Go.Op.move (Go.Operand.const (.int .i64 lg0)), type := 3, pos := "", after := #[], guard := none } 36 ⟨.out (by kernel_rfl) (by kernel_rfl), trivial⟩ (by kernel_rfl) (by kernel_rfl) (by kernel_rfl) rfl rfl rfl ?_
      clear hd
      go_wp2
      exact ⟨rfl, Ext.refl _, rfl⟩
    · intro vals w1 hx hd
      have e3 : vals 3 = .int .i64 lg0 := hd 3 (by decide)
      refine .run [(36, .int .i64 lg0)] { dst := some 0, op := Go.Op.call { callee := Go.Callee.value (Go.Operand.func 13), args := #[(Go.Operand.const (.int .i64 lg0)), Go.Operand.const (Go.Value.int Go.IntKind.i64 300)], argTypes := #[3, 3] }, type := 3, pos := "", after := #[], guard := none } 37 ⟨.inn 3 (by kernel_rfl) e3, trivial⟩ (by kernel_rfl) (by kernel_rfl) (by kernel_rfl) rfl rfl rfl ?_
      clear hd e3
      go_wp2_with fail
      refine (HP2.out _).mono ?_
      rintro e w2 ⟨rfl, rfl⟩
      go_wp2
      exact ⟨rfl, Ext.refl _, rfl⟩
    · intro vals w1 hx hd
      have e2 : vals 2 = .int .i64 (a + 1) := hd 2 (by decide)
      have e4 : vals 4 = .int .i64 k2 := hd 4 (by decide)
      refine .run [(35, .int .i64 (a + 1)), (37, .int .i64 k2)] { dst := some 0, op := Go.Op.binOp Go.BinOp.add 3 (Go.Operand.const (.int .i64 (a + 1))) (Go.Operand.const (.int .i64 k2)) 3, type := 3, pos := "", after := #[], guard := none } 38 ⟨.inn 2 (by kernel_rfl) e2, .inn 4 (by kernel_rfl) e4, trivial⟩ (by kernel_rfl) (by kernel_rfl) (by kernel_rfl) rfl rfl rfl ?_
      clear hd e2 e4
      go_wp2
      exact ⟨rfl, Ext.refl _, rfl⟩
    · intro vals w1 hx hd
      refine .run [(13, .pointer (some ⟨g13, 0, none⟩))] { dst := some 0, op := Go.Op.fieldAddr 34 (Go.Operand.const (.pointer (some ⟨g13, 0, none⟩))) 1, type := 0, pos := "", after := #[], guard := none } 39 ⟨.out (by kernel_rfl) (by kernel_rfl), trivial⟩ (by kernel_rfl) (by kernel_rfl) (by kernel_rfl) rfl rfl rfl ?_
      clear hd
      go_wp2
      exact ⟨rfl, Ext.refl _, rfl⟩
  intro vals W7 hx hf
  have e5 : vals 5 = .int .i64 b := hf 5 (by omega)
  have e6 : vals 6 = .pointer (some ⟨g13, 1, none⟩) := hf 6 (by omega)
  clear hf t0 w1_ w2_
  have hx := hx.undrew
  have hB := Ext.trans hB hx
  have HRS := Lib.hid ((HRS.out.below hx).more (Below.size hx))
  have HRT := Lib.hid ((HRT.out.below hx).more (Below.size hx))
  have hx6 := Ext.trans hx6 hx
  have J13 := J13.ext hx
  clear hx
  refine tail1 7 _ (by kernel_rfl) (by kernel_rfl) rfl ?_
  simp only [Lf, dstAt, Act.put, List.getElem?_toArray, List.getElem?_cons_zero, List.getElem?_cons_succ, Option.bind_some, List.setIfInBounds_toArray, List.set_cons_zero, List.set_cons_succ]
  rw [e5, e6]
  clear e5 e6
  have t1 : W7.cell? ⟨g13, 1, none⟩ = some (.int .i64 0) := J13.cell 1
  have t2 : W7.frozen? ⟨g13, 1, none⟩ = false := J13.frozen 1
  go_upto_region 7 with (fail)
  clear t1 t2
  have hx6 := hx6.setCell (p := ⟨g13, 1, none⟩) n6 (.int .i64 b)
  have HRS := Lib.hid ((HRS0.out.below hx6).more (Below.size hx6))
  have HRT := Lib.hid ((HRT0.out.below hx6).more (Below.size hx6))
  have J13 := J13.set_ 1 (.int .i64 b)
  have hB := hB.setCell (p := ⟨g13, 1, none⟩) n_w_J13 (.int .i64 b)
  simp only [List.setIfInBounds_toArray, List.set_cons_zero, List.set_cons_succ] at J13
  generalize W7.setCell ⟨g13, 1, none⟩ (.int .i64 b) = W8 at hB HRS HRT hx6 J13 ⊢
  clear n6 n_w_J13 HRS0 HRT0
  clear hx6
  have p0 : W8.cell? ⟨g13, 0, none⟩ = some (.int .i64 a) := J13.cell 0
  have p1 : W8.cell? ⟨g13, 1, none⟩ = some (.int .i64 b) := J13.cell 1
  go_wp2_with (fail)
  refine (HPS.out _ _ _ _ _ HRS.out HRT.out).mono ?_
  intro e W9 hret
  obtain ⟨vA, erA, rfl, hx, hcA⟩ := passes_form hret
  clear hret HPS p0 p1
  have hB := Ext.trans hB hx
  have HRS := Lib.hid ((HRS.out.below hx).more (Below.size hx))
  have HRT := Lib.hid ((HRT.out.below hx).more (Below.size hx))
  have J13 := J13.ext hx
  clear hx
  have HCA := Lib.hid hcA
  clear hcA
  obtain ⟨Wb, hWb⟩ : ∃ W : World, W = W9 := ⟨_, rfl⟩
  have hA1 := HCA.out
  rw [← hWb] at hB HRS HRT J13 hA1 ⊢
  have HCA := Lib.hid hA1
  clear hA1 hWb
  go_wp2
  go_loopw [16, 17] (fun x y wr => ∃ i : Nat, i ≤ ms ∧ y = .int .i64 i ∧ x = .int .i64 (cntP SL TL ⟨a, b⟩ i 0 : Nat) ∧ Hid (cntP SL TL ⟨a, b⟩ i 0 ≤ 192 * i) ∧ Ext Wb wr) (fun _ y _ => ms - (intOf y).toNat)
  case atStart => exact ⟨0, Nat.zero_le _, rfl, rfl, Lib.hid (Nat.zero_le _), Ext.refl _⟩
  case round =>
    obtain ⟨i, hi, rfl, rfl, HCN, hx⟩ := hrel
    by_cases hin : i < ms
    · skip
      obtain ⟨Wc, hWc⟩ : ∃ W : World, W = wr := ⟨_, rfl⟩
      rw [← hWc] at hx ⊢
      clear hWc
      generalize hcz : cntP SL TL ⟨a, b⟩ i 0 = cz
      rw [hcz] at HCN
      have HCZ := Lib.hid hcz
      clear hcz
      go_wp2
      go_loopw [16, 18] (fun x y wr => ∃ k : Nat, k ≤ mt ∧ y = .int .i64 k ∧ x = .int .i64 (cntP SL TL ⟨a, b⟩ i k : Nat) ∧ Hid (cntP SL TL ⟨a, b⟩ i k ≤ 192 * i + 64 * k) ∧ Ext Wc wr) (fun _ y _ => mt - (intOf y).toNat)
      case atStart => exact ⟨0, Nat.zero_le _, rfl, by rw [HCZ.out], Lib.hid (by rw [HCZ.out]; exact HCN.out), Ext.refl _⟩
      case round =>
        obtain ⟨k, hk, rfl, rfl, HCK, hy⟩ := hrel
        by_cases hkn : k < mt
        · skip
          have hsz : i < SL.length := by rw [← HMS.out]; exact hin
          have htz : k < TL.length := by rw [← HMT.out]; exact hkn
          have hs1 := HS.out i hsz
          have ht1 := HT.out k htz
          have hcn : cntP SL TL ⟨a, b⟩ i (k + 1) = cntP SL TL ⟨a, b⟩ i k + (pairP SL[i] ⟨a, b⟩ TL[k]).length := cnt_next hsz htz
          have hle : (pairP SL[i] ⟨a, b⟩ TL[k]).length ≤ nA := by have := pair_le_all (span := ⟨a, b⟩) hsz htz; rw [HNA2.out] at this; exact this
          have hsl := (sat_orb hs1.1).2.1
          have hfil : AL.filter (ofPair SL[i].id TL[k].id) = pairP SL[i] ⟨a, b⟩ TL[k] := by
            rw [HAL.out]
            refine own_pass hsz htz (fun j hj hne => ?_) (fun j hj hne => ?_) hsl ⟨q1a, ab1⟩
            · rw [hs1.2, (HS.out j hj).2]; omega
            · rw [ht1.2, (HT.out j hj).2]; omega
          have hone := passes_one hs1.1 ht1.1 HSPAN.out hsl ⟨q1a, ab1⟩
          obtain ⟨gs, gso, hz1, hA1, hgs, -⟩ := (HRS.out.below (Ext.trans hx hy)).at_ sat_len hin
          obtain ⟨gt, gto, hz2, hA2, hgt, -⟩ := (HRT.out.below (Ext.trans hx hy)).at_ stn_len hkn
          obtain ⟨_, hsc⟩ : True ∧ i < cHRS := ⟨trivial, Nat.lt_of_lt_of_le hin HRS.out.cap⟩
          have htc : k < cHRT := Nat.lt_of_lt_of_le hkn HRT.out.cap
          have hsm : cHRS ≤ 9223372036854775807 := by have h9 := HRS.out.capM; unfold maxLen at h9; exact h9
          have htm : cHRT ≤ 9223372036854775807 := by have h9 := HRT.out.capM; unfold maxLen at h9; exact h9
          subst hA1 hA2
          have HSI : Hid (∀ W, Ext Wb W → RA satCells 21 W W.heap.size (some ⟨gs, gso + i * 21, none⟩) 1 (cHRS - i) [SL[i]]) := Lib.hid (fun W h => ((HRS.out.below h).more (Below.size h)).sub sat_len hin hsz)
          have HTI : Hid (∀ W, Ext Wb W → RA stnCells 6 W W.heap.size (some ⟨gt, gto + k * 6, none⟩) 1 (cHRT - k) [TL[k]]) := Lib.hid (fun W h => ((HRT.out.below h).more (Below.size h)).sub stn_len hkn htz)
          have hsi : ∀ w : World, Ext Wb w → w.cell? ⟨gs, gso + i * 21, none⟩ = some (.int .i64 SL[i].id) := fun w h => by
            have := (HSI.out w h).range sat_len (k := 0) (by omega)
            obtain ⟨b1, o1, _, hA, _, hr⟩ := this
            injection hA with hA
            injection hA with h1 h2
            subst h1 h2
            exact hr 0 _ rfl
          have hti : ∀ w : World, Ext Wb w → w.cell? ⟨gt, gto + k * 6, none⟩ = some (.int .i64 TL[k].id) := fun w h => by
            have := (HTI.out w h).range stn_len (k := 0) (by omega)
            obtain ⟨b1, o1, _, hA, _, hr⟩ := this
            injection hA with hA
            injection hA with h1 h2
            subst h1 h2
            exact hr 0 _ rfl
          generalize SL[i].id = sid at hsi hfil
          generalize TL[k].id = yid at hti hfil
          generalize hPP : pairP SL[i] ⟨a, b⟩ TL[k] = PP at hcn hle hone hfil
          obtain ⟨nP, hnP⟩ : ∃ n, n = PP.length := ⟨_, rfl⟩
          rw [← hnP] at hcn hle hone
          obtain ⟨ce, hce⟩ : ∃ ce : Int, (nP ≤ 64 ∧ ce = 0) ∨ (¬ nP ≤ 64 ∧ ce = 90) := by by_cases h : nP ≤ 64; exact ⟨0, .inl ⟨h, rfl⟩⟩; exact ⟨90, .inr ⟨h, rfl⟩⟩
          have HP1C : Hid (∀ w, Ext Wb w → Calls Try.prog 31 #[.slice (some ⟨gs, gso + i * 21, none⟩) 1 (cHRS - i), .slice (some ⟨gt, gto + k * 6, none⟩) 1 (cHRT - k), .agg #[.int .i64 a, .int .i64 b]] w (OneRet nP PP ce w)) := Lib.hid (fun w h => by
            have hp := Passes_all [SL[i]] [TL[k]] _ _ 1 _ 1 _ a b w (HSI.out w h) (HTI.out w h)
            rw [hone] at hp
            exact hp.mono fun e w1 hr => one_form hce hr)
          have HCE := Lib.hid hce
          have HCNX := Lib.hid hcn
          have HFIL := Lib.hid hfil
          have HNP := Lib.hid hnP
          have HSID := Lib.hid hsi
          have HYID := Lib.hid hti
          have HGS := Lib.hid hgs
          clear hce hcn hfil hnP hsi hti hone hPP hs1 ht1 hsl HSI HTI hsz htz hz1 hz2 hgs hgt
          have t0 : wr.cell? ⟨g13, 0, none⟩ = some (.int .i64 a) := (J13.ext (Ext.trans hx hy)).cell 0
          have t1 : wr.cell? ⟨g13, 1, none⟩ = some (.int .i64 b) := (J13.ext (Ext.trans hx hy)).cell 1
          have wi_ : IntKind.i64.wrap ((i : Int) + 1) = (i : Int) + 1 := IntWalk.i64_in _ (by omega)
          have wk_ : IntKind.i64.wrap ((k : Int) + 1) = (k : Int) + 1 := IntWalk.i64_in _ (by omega)
          generalize hcq : cntP SL TL ⟨a, b⟩ i k = cq
          rw [hcq] at HCK HCNX
          have HCQ := Lib.hid hcq
          clear hcq
          have hcq64 : cq ≤ 192 * i + 64 * k := HCK.out
          go_upto_region 15 with (fail)
          have hx0 := Ext.trans hx hy
          refine L7.wp_region_late 15 14 (fun ix vals v w1 => match ix with | 0 => v = .slice (some ⟨gs, gso, none⟩) ms cHRS | 1 => v = .int .i64 (i : Int) | 2 => v = .int .i64 (i : Int) | 3 => v = .int .i64 ((i : Int) + 1) | 4 => v = .slice (some ⟨gs, gso + i * 21, none⟩) 1 (cHRS - i) | 5 => v = .slice (some ⟨gt, gto, none⟩) mt cHRT | 6 => v = .int .i64 (k : Int) | 7 => v = .int .i64 (k : Int) | 8 => v = .int .i64 ((k : Int) + 1) | 9 => v = .slice (some ⟨gt, gto + k * 6, none⟩) 1 (cHRT - k) | 10 => v = .agg #[.int .i64 a, .int .i64 b] | 11 => ∃ z, v = .tuple #[z, .int .i64 ce] ∧ (nP ≤ 64 → w1.ownsRow wr.heap.size 47 6 z PP.length (PP.flatMap pasCells)) | 12 => ∃ z, v = .tuple #[z, .int .i64 ce] ∧ (nP ≤ 64 → w1.ownsRow wr.heap.size 47 6 z PP.length (PP.flatMap pasCells)) | 13 => (nP ≤ 64 → w1.ownsRow wr.heap.size 47 6 v PP.length (PP.flatMap pasCells)) | _ => v = .int .i64 ce) (fun _ _ => none) (by kernel_rfl) (by kernel_rfl) (by kernel_rfl) (by kernel_rfl) _ rfl ?_ ?_ ?_ ?_ ?_
          · intro ix vals v w1 hi hr k hk
            match ix, hr, hk with
            | 0, _, hk => cases hk
            | 1, _, hk => cases hk
            | 2, _, hk => cases hk
            | 3, _, hk => cases hk
            | 4, _, hk => cases hk
            | 5, _, hk => cases hk
            | 6, _, hk => cases hk
            | 7, _, hk => cases hk
            | 8, _, hk => cases hk
            | 9, _, hk => cases hk
            | 10, _, hk => cases hk
            | 11, _, hk => cases hk
            | 12, _, hk => cases hk
            | 13, _, hk => cases hk
            | (kx + 14), _, hk => cases hk
          · intro ix vals v w1 w2 hi hr hx
            match ix, hr with
            | 0, hr => exact hr
            | 1, hr => exact hr
            | 2, hr => exact hr
            | 3, hr => exact hr
            | 4, hr => exact hr
            | 5, hr => exact hr
            | 6, hr => exact hr
            | 7, hr => exact hr
            | 8, hr => exact hr
            | 9, hr => exact hr
            | 10, hr => exact hr
            | 11, hr => obtain ⟨z, h1, h2⟩ := hr; exact ⟨z, h1, fun h => own_ext (h2 h) hx⟩
            | 12, hr => obtain ⟨z, h1, h2⟩ := hr; exact ⟨z, h1, fun h => own_ext (h2 h) hx⟩
            | 13, hr => exact fun h => own_ext (hr h) hx
            | (kx + 14), hr => exact hr
          · intro ix vals vals_ v w1 hi hv hr
            exact hr
          · refine ⟨?_, ?_, ?_, ?_, ?_, ?_, ?_, ?_, ?_, ?_, ?_, ?_, ?_, ?_, ?_, trivial⟩
            · intro vals w1 hx hd ha
              refine L7.plain1 (fun _ => rfl) ?_
              clear hd ha
              simp only [Lf]
              go_wp2
              exact ⟨rfl, Ext.refl _, rfl⟩
            · intro vals w1 hx hd ha
              refine L7.plain1 (fun _ => rfl) ?_
              clear hd ha
              simp only [Lf, dstAt, Act.put, List.getElem?_toArray, List.getElem?_cons_zero, Option.bind_some, List.setIfInBounds_toArray, List.set_cons_zero, List.set_cons_succ]
              go_wp2
              exact ⟨rfl, Ext.refl _, rfl⟩
            · intro vals w1 hx hd ha
              refine L7.plain1 (fun _ => rfl) ?_
              clear hd ha
              simp only [Lf, dstAt, Act.put, List.getElem?_toArray, List.getElem?_cons_zero, List.getElem?_cons_succ, Option.bind_some, List.setIfInBounds_toArray, List.set_cons_zero, List.set_cons_succ]
              go_wp2
              exact ⟨rfl, Ext.refl _, rfl⟩
            · intro vals w1 hx hd ha
              have e2 : vals 2 = .int .i64 (i : Int) := hd 2 (by decide)
              refine L7.plain1 (fun _ => rfl) ?_
              clear hd ha
              simp only [Lf, dstAt, Act.put, List.getElem?_toArray, List.getElem?_cons_zero, List.getElem?_cons_succ, Option.bind_some, List.setIfInBounds_toArray, List.set_cons_zero, List.set_cons_succ]
              simp only [e2]
              clear e2
              go_wp2
              exact ⟨rfl, Ext.refl _, rfl⟩
            · intro vals w1 hx hd ha
              have e0 : vals 0 = .slice (some ⟨gs, gso, none⟩) ms cHRS := hd 0 (by decide)
              have e1 : vals 1 = .int .i64 (i : Int) := hd 1 (by decide)
              have e3 : vals 3 = .int .i64 ((i : Int) + 1) := hd 3 (by decide)
              refine L7.plain1 (fun _ => rfl) ?_
              clear hd ha
              simp only [Lf, dstAt, Act.put, List.getElem?_toArray, List.getElem?_cons_zero, List.getElem?_cons_succ, Option.bind_some, List.setIfInBounds_toArray, List.set_cons_zero, List.set_cons_succ]
              simp only [e0, e1, e3]
              clear e0 e1 e3
              go_wp2
              exact ⟨rfl, Ext.refl _, rfl⟩
            · intro vals w1 hx hd ha
              refine L7.plain1 (fun _ => rfl) ?_
              clear hd ha
              simp only [Lf, dstAt, Act.put, List.getElem?_toArray, List.getElem?_cons_zero, List.getElem?_cons_succ, Option.bind_some, List.setIfInBounds_toArray, List.set_cons_zero, List.set_cons_succ]
              go_wp2
              exact ⟨rfl, Ext.refl _, rfl⟩
            · intro vals w1 hx hd ha
              refine L7.plain1 (fun _ => rfl) ?_
              clear hd ha
              simp only [Lf, dstAt, Act.put, List.getElem?_toArray, List.getElem?_cons_zero, List.getElem?_cons_succ, Option.bind_some, List.setIfInBounds_toArray, List.set_cons_zero, List.set_cons_succ]
              go_wp2
              exact ⟨rfl, Ext.refl _, rfl⟩
            · intro vals w1 hx hd ha
              refine L7.plain1 (fun _ => rfl) ?_
              clear hd ha
              simp only [Lf, dstAt, Act.put, List.getElem?_toArray, List.getElem?_cons_zero, List.getElem?_cons_succ, Option.bind_some, List.setIfInBounds_toArray, List.set_cons_zero, List.set_cons_succ]
              go_wp2
              exact ⟨rfl, Ext.refl _, rfl⟩
            · intro vals w1 hx hd ha
              have e7 : vals 7 = .int .i64 (k : Int) := hd 7 (by decide)
              refine L7.plain1 (fun _ => rfl) ?_
              clear hd ha
              simp only [Lf, dstAt, Act.put, List.getElem?_toArray, List.getElem?_cons_zero, List.getElem?_cons_succ, Option.bind_some, List.setIfInBounds_toArray, List.set_cons_zero, List.set_cons_succ]
              simp only [e7]
              clear e7
              go_wp2
              exact ⟨rfl, Ext.refl _, rfl⟩
            · intro vals w1 hx hd ha
              have e5 : vals 5 = .slice (some ⟨gt, gto, none⟩) mt cHRT := hd 5 (by decide)
              have e6 : vals 6 = .int .i64 (k : Int) := hd 6 (by decide)
              have e8 : vals 8 = .int .i64 ((k : Int) + 1) := hd 8 (by decide)
              refine L7.plain1 (fun _ => rfl) ?_
              clear hd ha
              simp only [Lf, dstAt, Act.put, List.getElem?_toArray, List.getElem?_cons_zero, List.getElem?_cons_succ, Option.bind_some, List.setIfInBounds_toArray, List.set_cons_zero, List.set_cons_succ]
              simp only [e5, e6, e8]
              clear e5 e6 e8
              go_wp2
              exact ⟨rfl, Ext.refl _, rfl⟩
            · intro vals w1 hx hd ha
              refine L7.plain1 (fun _ => rfl) ?_
              clear hd ha
              simp only [Lf, dstAt, Act.put, List.getElem?_toArray, List.getElem?_cons_zero, List.getElem?_cons_succ, Option.bind_some, List.setIfInBounds_toArray, List.set_cons_zero, List.set_cons_succ]
              have t0 := ext_cell hx t0
              have t1 := ext_cell hx t1
              go_wp2
              exact ⟨rfl, Ext.refl _, rfl⟩
            · intro vals w1 hx hd ha
              have e4 : vals 4 = .slice (some ⟨gs, gso + i * 21, none⟩) 1 (cHRS - i) := hd 4 (by decide)
              have e9 : vals 9 = .slice (some ⟨gt, gto + k * 6, none⟩) 1 (cHRT - k) := hd 9 (by decide)
              have e10 : vals 10 = .agg #[.int .i64 a, .int .i64 b] := hd 10 (by decide)
              refine L7.plain1 (fun _ => rfl) ?_
              clear hd ha
              simp only [Lf, dstAt, Act.put, List.getElem?_toArray, List.getElem?_cons_zero, List.getElem?_cons_succ, Option.bind_some, List.setIfInBounds_toArray, List.set_cons_zero, List.set_cons_succ]
              simp only [e4]
              simp only [e9]
              simp only [e10]
              clear e4 e9 e10
              have hz := Below.size hx.undrew
              go_wp2_with fail
              refine (HP1C.out w1 (Ext.trans hx0 hx.undrew)).mono ?_
              rintro e w2 ⟨z, rfl, hown, hb2⟩
              go_wp2
              exact ⟨rfl, hb2, z, rfl, fun h => own_base (hown h) hz⟩
            · intro vals w1 hx hd ha
              have r11 : (fun v w1 => ∃ z, v = .tuple #[z, .int .i64 ce] ∧ (nP ≤ 64 → w1.ownsRow wr.heap.size 47 6 z PP.length (PP.flatMap pasCells))) (vals 11) w1 := hd 11 (by decide)
              dsimp only at r11
              refine L7.plain1 (fun _ => rfl) ?_
              clear hd ha
              simp only [Lf, dstAt, Act.put, List.getElem?_toArray, List.getElem?_cons_zero, List.getElem?_cons_succ, Option.bind_some, List.setIfInBounds_toArray, List.set_cons_zero, List.set_cons_succ]
              obtain ⟨z, e_11, ho⟩ := r11
              rw [e_11]
              go_wp2
              exact ⟨rfl, Ext.refl _, z, rfl, ho⟩
            · intro vals w1 hx hd ha
              have r12 : (fun v w1 => ∃ z, v = .tuple #[z, .int .i64 ce] ∧ (nP ≤ 64 → w1.ownsRow wr.heap.size 47 6 z PP.length (PP.flatMap pasCells))) (vals 12) w1 := hd 12 (by decide)
              dsimp only at r12
              refine L7.plain1 (fun _ => rfl) ?_
              clear hd ha
              simp only [Lf, dstAt, Act.put, List.getElem?_toArray, List.getElem?_cons_zero, List.getElem?_cons_succ, Option.bind_some, List.setIfInBounds_toArray, List.set_cons_zero, List.set_cons_succ]
              obtain ⟨z, e_12, ho⟩ := r12
              rw [e_12]
              go_wp2
              exact ⟨rfl, Ext.refl _, ho⟩
            · intro vals w1 hx hd ha
              have r12 : (fun v w1 => ∃ z, v = .tuple #[z, .int .i64 ce] ∧ (nP ≤ 64 → w1.ownsRow wr.heap.size 47 6 z PP.length (PP.flatMap pasCells))) (vals 12) w1 := hd 12 (by decide)
              dsimp only at r12
              refine L7.plain1 (fun _ => rfl) ?_
              clear hd ha
              simp only [Lf, dstAt, Act.put, List.getElem?_toArray, List.getElem?_cons_zero, List.getElem?_cons_succ, Option.bind_some, List.setIfInBounds_toArray, List.set_cons_zero, List.set_cons_succ]
              obtain ⟨z, e_12, ho⟩ := r12
              rw [e_12]
              go_wp2
              exact ⟨rfl, Ext.refl _, rfl⟩
          intro vals Wd hx9 hf _
          have hown : nP ≤ 64 → Wd.ownsRow wr.heap.size 47 6 (vals 13) PP.length (PP.flatMap pasCells) := hf 13 (by omega)
          have e14 : vals 14 = .int .i64 ce := hf 14 (by omega)
          clear hf t0 t1 hx0 HP1C
          have hx9 := hx9.undrew
          have hy := Ext.trans hy hx9
          simp only [Lf, dstAt, Act.put, List.getElem?_toArray, List.getElem?_cons_zero, List.getElem?_cons_succ, Option.bind_some, List.setIfInBounds_toArray, List.set_cons_zero, List.set_cons_succ]
          generalize vals 13 = vP at hown ⊢
          rw [e14]
          clear e14 hx9
          have HOWN := Lib.hid hown
          clear hown
          go_wp2
          refine L7.Qn_of ?_
          refine tail1 16 _ (by kernel_rfl) (by kernel_rfl) rfl ?_
          rcases HCE.out with ⟨h64, rfl⟩ | ⟨h64, rfl⟩
          · skip
            have hown := HOWN.out h64
            rw [← HNP.out] at hown
            obtain ⟨QP, cP, hvP, _, _⟩ := own_slice hown
            subst hvP
            have HRP := Lib.hid (RA.of_own (cells := pasCells) hown HNP.out.symm (by omega))
            clear HOWN hown
            have wc_ : IntKind.i64.wrap ((cq : Int) + (nP : Int)) = ((cq + nP : Nat) : Int) := IntWalk.i64_in _ (by omega)
            have hck : Hid (cntP SL TL ⟨a, b⟩ i (k + 1) ≤ 192 * i + 64 * (k + 1)) := Lib.hid (by rw [HCNX.out]; omega)
            obtain ⟨We, hWe⟩ : ∃ W : World, W = Wd := ⟨_, rfl⟩
            rw [← hWe] at hy HRP ⊢
            clear hWe
            rcases HCA.out with ⟨rfl, hA64, hownA⟩ | ⟨rfl, hA64⟩
            · skip
              clear HCA
              rw [← HNA.out] at hownA
              obtain ⟨QA, cA, hvA, _, _⟩ := own_slice hownA
              subst hvA
              have HRA := Lib.hid (RA.of_own (cells := pasCells) hownA HNA.out.symm (by omega))
              clear hownA
              go_wp2
              go_loopw [21, 22] (fun x y wr => ∃ n : Nat, n ≤ nA ∧ y = .int .i64 n ∧ Hid (wr.ownsRow We.heap.size 47 6 x ((AL.take n).filter (ofPair sid yid)).length (((AL.take n).filter (ofPair sid yid)).flatMap pasCells)) ∧ Ext We wr) (fun _ y _ => nA - (intOf y).toNat)
              case atStart => exact ⟨0, Nat.zero_le _, rfl, Lib.hid (World.ownsRow_nil _ _ _ _), Ext.refl _⟩
              case round =>
                obtain ⟨n, hn, rfl, HO, hz⟩ := hrel
                by_cases hnn : n < nA
                · skip
                  have hxw := Ext.trans (Ext.trans hx hy) hz
                  obtain ⟨ga, gao, hq1, hA1, _, hr⟩ := (HRA.out.below hxw).range pas_len hnn
                  obtain ⟨ga2, gao2, hq12, hA12, _, hc1⟩ := (HRA.out.below hxw).at_ pas_len hnn
                  obtain ⟨rfl, rfl⟩ : ga2 = ga ∧ gao2 = gao := by rw [hA1] at hA12; injection hA12 with h; injection h with h1 h2; exact ⟨h1.symm, h2.symm⟩
                  clear hA12
                  have hst : (AL.take (n + 1)).filter (ofPair sid yid) = (AL.take n).filter (ofPair sid yid) ++ (if ofPair sid yid AL[n] = true then [AL[n]] else []) := by rw [List.take_succ_eq_append_getElem hq1, List.filter_append]; by_cases h : ofPair sid yid AL[n] = true <;> simp [h]
                  have hll : ((AL.take n).filter (ofPair sid yid)).length ≤ 64 := Nat.le_trans (List.length_filter_le _ _) (by rw [List.length_take]; omega)
                  generalize AL[n] = pz at hr hc1 hst
                  have d0 : wr.cell? ⟨ga2, gao2 + n * 6, none⟩ = some (.int .i64 pz.sat) := hc1 0 (by omega)
                  have d1 : wr.cell? ⟨ga2, gao2 + n * 6 + 1, none⟩ = some (.int .i64 pz.station) := hc1 1 (by omega)
                  obtain ⟨Y, hY⟩ : ∃ X, (pasCells pz).toArray = X := ⟨_, rfl⟩
                  have HZY : Hid (Y.size = 6) := Lib.hid (by rw [← hY]; rfl)
                  have HOY : Hid (Y.all (·.oneCell') = true) := Lib.hid (by rw [← hY]; exact pas_oneT _)
                  have HYL : Hid (Y.toList = pasCells pz) := Lib.hid (by rw [← hY])
                  have HRY : Hid (wr.rangeAt ga2 (gao2 + n * 6) Y.toList) := Lib.hid (by rw [← hY]; exact hr)
                  clear hr hc1 hY hq1 hq12
                  subst hA1
                  have i0 := HSID.out wr hxw
                  have i1 := HYID.out wr hxw
                  have HST := Lib.hid hst
                  clear hst
                  have hop : ofPair sid yid pz = (decide (pz.sat = sid) && decide (pz.station = yid)) := rfl
                  have HOP := Lib.hid hop
                  clear hop
                  generalize hFL : (AL.take n).filter (ofPair sid yid) = FL at HO HST hll
                  have HFL := Lib.hid hFL
                  clear hFL
                  generalize pz.sat = pa at d0 HOP
                  generalize pz.station = pb at d1 HOP
                  by_cases hpa : pa = sid
                  · skip
                    by_cases hpb : pb = yid
                    · skip
                      have hf1 : (decide (pa = sid) && decide (pb = yid)) = true := by simp [hpa, hpb]
                      subst hpa hpb
                      go_upto_region 24 with (fail)
                      refine wp_region_obl 24 (fun ix vals v w1 => match ix with | 0 => v = .slice (some ⟨ga2, gao2, none⟩) nA cA | 1 => v = .int .i64 (n : Int) | 2 => v = .pointer (some ⟨ga2, gao2 + n * 6, none⟩) | 3 => v = .pointer (some ⟨ga2, gao2 + n * 6, none⟩) | 4 => v = .int .i64 pa | 5 => v = .slice (some ⟨gs, gso, none⟩) ms cHRS | 6 => v = .int .i64 (i : Int) | 7 => v = .pointer (some ⟨gs, gso + i * 21, none⟩) | 8 => v = .pointer (some ⟨gs, gso + i * 21, none⟩) | 9 => v = .int .i64 pa | 10 => v = .bool true | 11 => v = .bool true | 12 => v = .slice (some ⟨ga2, gao2, none⟩) nA cA | 13 => v = .int .i64 (n : Int) | 14 => v = .pointer (some ⟨ga2, gao2 + n * 6, none⟩) | 15 => v = .pointer (some ⟨ga2, gao2 + n * 6 + 1, none⟩) | 16 => v = .int .i64 pb | 17 => v = .slice (some ⟨gt, gto, none⟩) mt cHRT | 18 => v = .int .i64 (k : Int) | 19 => v = .pointer (some ⟨gt, gto + k * 6, none⟩) | 20 => v = .pointer (some ⟨gt, gto + k * 6, none⟩) | 21 => v = .int .i64 pb | 22 => v = .bool true | _ => v = .bool true) (by kernel_rfl) (by kernel_rfl) ?_ ?_ ?_ ?_
                      · intro ix vals v w1 w2 hi hr hx
                        match ix, hr with
                        | 0, hr => exact hr
                        | 1, hr => exact hr
                        | 2, hr => exact hr
                        | 3, hr => exact hr
                        | 4, hr => exact hr
                        | 5, hr => exact hr
                        | 6, hr => exact hr
                        | 7, hr => exact hr
                        | 8, hr => exact hr
                        | 9, hr => exact hr
                        | 10, hr => exact hr
                        | 11, hr => exact hr
                        | 12, hr => exact hr
                        | 13, hr => exact hr
                        | 14, hr => exact hr
                        | 15, hr => exact hr
                        | 16, hr => exact hr
                        | 17, hr => exact hr
                        | 18, hr => exact hr
                        | 19, hr => exact hr
                        | 20, hr => exact hr
                        | 21, hr => exact hr
                        | 22, hr => exact hr
                        | (kx + 23), hr => exact hr
                      · intro ix vals vals_ v w1 hi hv hr
                        exact hr
                      · refine obls_ofT [some 94, some 95, some 96, some 97, some 98, some 99, some 100, some 101, some 102, some 103, some 104, some 105, some 106, some 107, some 108, some 109, some 110, some 111, some 112, some 113, some 114, some 115, some 116, some 117] [(14, .slice (some ⟨ga2, gao2, none⟩) nA cA), (22, .int .i64 (n : Int)), (11, .slice (some ⟨gs, gso, none⟩) ms cHRS), (17, .int .i64 (i : Int)), (12, .slice (some ⟨gt, gto, none⟩) mt cHRT), (18, .int .i64 (k : Int))] 145 (by kernel_rfl) (by kernel_rfl) ⟨by kernel_rfl, by kernel_rfl, by kernel_rfl, by kernel_rfl, by kernel_rfl, by kernel_rfl, trivial⟩ ?_
                        refine ⟨?_, ?_, ?_, ?_, ?_, ?_, ?_, ?_, ?_, ?_, ?_, ?_, ?_, ?_, ?_, ?_, ?_, ?_, ?_, ?_, ?_, ?_, ?_, ?_, trivial⟩
                        · intro vals w1 hx hd
                          refine .run [(14, .slice (some ⟨ga2, gao2, none⟩) nA cA)] { dst := some 0, op := Go.Op.move (Go.Operand.const (.slice (some ⟨ga2, gao2, none⟩) nA cA)), type := 32, pos := "", after := #[], guard := none } 94 ⟨.out (by kernel_rfl) (by kernel_rfl), trivial⟩ (by kernel_rfl) (by kernel_rfl) (by kernel_rfl) rfl rfl rfl ?_
                          clear hd
                          go_wp2
                          exact ⟨rfl, Ext.refl _, rfl⟩
                        · intro vals w1 hx hd
                          refine .run [(22, .int .i64 (n : Int))] { dst := some 0, op := Go.Op.move (Go.Operand.const (.int .i64 (n : Int))), type := 3, pos := "", after := #[], guard := none } 95 ⟨.out (by kernel_rfl) (by kernel_rfl), trivial⟩ (by kernel_rfl) (by kernel_rfl) (by kernel_rfl) rfl rfl rfl ?_
                          clear hd
                          go_wp2
                          exact ⟨rfl, Ext.refl _, rfl⟩
                        · intro vals w1 hx hd
                          have e0 : vals 0 = .slice (some ⟨ga2, gao2, none⟩) nA cA := hd 0 (by decide)
                          have e1 : vals 1 = .int .i64 (n : Int) := hd 1 (by decide)
                          refine .run [(94, .slice (some ⟨ga2, gao2, none⟩) nA cA), (95, .int .i64 (n : Int))] { dst := some 0, op := Go.Op.indexAddr 32 (Go.Operand.const (.slice (some ⟨ga2, gao2, none⟩) nA cA)) (Go.Operand.const (.int .i64 (n : Int))), type := 0, pos := "", after := #[], guard := none } 96 ⟨.inn 0 (by kernel_rfl) e0, .inn 1 (by kernel_rfl) e1, trivial⟩ (by kernel_rfl) (by kernel_rfl) (by kernel_rfl) rfl rfl rfl ?_
                          clear hd e0 e1
                          go_wp2
                          exact ⟨rfl, Ext.refl _, rfl⟩
                        · intro vals w1 hx hd
                          have e2 : vals 2 = .pointer (some ⟨ga2, gao2 + n * 6, none⟩) := hd 2 (by decide)
                          refine .run [(96, .pointer (some ⟨ga2, gao2 + n * 6, none⟩))] { dst := some 0, op := Go.Op.fieldAddr 47 (Go.Operand.const (.pointer (some ⟨ga2, gao2 + n * 6, none⟩))) 0, type := 0, pos := "", after := #[], guard := none } 97 ⟨.inn 2 (by kernel_rfl) e2, trivial⟩ (by kernel_rfl) (by kernel_rfl) (by kernel_rfl) rfl rfl rfl ?_
                          clear hd e2
                          go_wp2
                          exact ⟨rfl, Ext.refl _, rfl⟩
                        · intro vals w1 hx hd
                          have e3 : vals 3 = .pointer (some ⟨ga2, gao2 + n * 6, none⟩) := hd 3 (by decide)
                          refine .run [(97, .pointer (some ⟨ga2, gao2 + n * 6, none⟩))] { dst := some 0, op := Go.Op.load 3 (Go.Operand.const (.pointer (some ⟨ga2, gao2 + n * 6, none⟩))), type := 3, pos := "", after := #[], guard := none } 98 ⟨.inn 3 (by kernel_rfl) e3, trivial⟩ (by kernel_rfl) (by kernel_rfl) (by kernel_rfl) rfl rfl rfl ?_
                          clear hd e3
                          have d0 := ext_cell hx d0
                          go_wp2
                          exact ⟨rfl, Ext.refl _, rfl⟩
                        · intro vals w1 hx hd
                          refine .run [(11, .slice (some ⟨gs, gso, none⟩) ms cHRS)] { dst := some 0, op := Go.Op.move (Go.Operand.const (.slice (some ⟨gs, gso, none⟩) ms cHRS)), type := 36, pos := "", after := #[], guard := none } 99 ⟨.out (by kernel_rfl) (by kernel_rfl), trivial⟩ (by kernel_rfl) (by kernel_rfl) (by kernel_rfl) rfl rfl rfl ?_
                          clear hd
                          go_wp2
                          exact ⟨rfl, Ext.refl _, rfl⟩
                        · intro vals w1 hx hd
                          refine .run [(17, .int .i64 (i : Int))] { dst := some 0, op := Go.Op.move (Go.Operand.const (.int .i64 (i : Int))), type := 3, pos := "", after := #[], guard := none } 100 ⟨.out (by kernel_rfl) (by kernel_rfl), trivial⟩ (by kernel_rfl) (by kernel_rfl) (by kernel_rfl) rfl rfl rfl ?_
                          clear hd
                          go_wp2
                          exact ⟨rfl, Ext.refl _, rfl⟩
                        · intro vals w1 hx hd
                          have e5 : vals 5 = .slice (some ⟨gs, gso, none⟩) ms cHRS := hd 5 (by decide)
                          have e6 : vals 6 = .int .i64 (i : Int) := hd 6 (by decide)
                          refine .run [(99, .slice (some ⟨gs, gso, none⟩) ms cHRS), (100, .int .i64 (i : Int))] { dst := some 0, op := Go.Op.indexAddr 36 (Go.Operand.const (.slice (some ⟨gs, gso, none⟩) ms cHRS)) (Go.Operand.const (.int .i64 (i : Int))), type := 0, pos := "", after := #[], guard := none } 101 ⟨.inn 5 (by kernel_rfl) e5, .inn 6 (by kernel_rfl) e6, trivial⟩ (by kernel_rfl) (by kernel_rfl) (by kernel_rfl) rfl rfl rfl ?_
                          clear hd e5 e6
                          go_wp2
                          exact ⟨rfl, Ext.refl _, rfl⟩
                        · intro vals w1 hx hd
                          have e7 : vals 7 = .pointer (some ⟨gs, gso + i * 21, none⟩) := hd 7 (by decide)
                          refine .run [(101, .pointer (some ⟨gs, gso + i * 21, none⟩))] { dst := some 0, op := Go.Op.fieldAddr 27 (Go.Operand.const (.pointer (some ⟨gs, gso + i * 21, none⟩))) 0, type := 0, pos := "", after := #[], guard := none } 102 ⟨.inn 7 (by kernel_rfl) e7, trivial⟩ (by kernel_rfl) (by kernel_rfl) (by kernel_rfl) rfl rfl rfl ?_
                          clear hd e7
                          go_wp2
                          exact ⟨rfl, Ext.refl _, rfl⟩
                        · intro vals w1 hx hd
                          have e8 : vals 8 = .pointer (some ⟨gs, gso + i * 21, none⟩) := hd 8 (by decide)
                          refine .run [(102, .pointer (some ⟨gs, gso + i * 21, none⟩))] { dst := some 0, op := Go.Op.load 3 (Go.Operand.const (.pointer (some ⟨gs, gso + i * 21, none⟩))), type := 3, pos := "", after := #[], guard := none } 103 ⟨.inn 8 (by kernel_rfl) e8, trivial⟩ (by kernel_rfl) (by kernel_rfl) (by kernel_rfl) rfl rfl rfl ?_
                          clear hd e8
                          have i0 := ext_cell hx i0
                          go_wp2
                          exact ⟨rfl, Ext.refl _, rfl⟩
                        · intro vals w1 hx hd
                          have e4 : vals 4 = .int .i64 pa := hd 4 (by decide)
                          have e9 : vals 9 = .int .i64 pa := hd 9 (by decide)
                          refine .run [(98, .int .i64 pa), (103, .int .i64 pa)] { dst := some 0, op := Go.Op.binOp Go.BinOp.eql 3 (Go.Operand.const (.int .i64 pa)) (Go.Operand.const (.int .i64 pa)) 3, type := 4, pos := "", after := #[], guard := none } 104 ⟨.inn 4 (by kernel_rfl) e4, .inn 9 (by kernel_rfl) e9, trivial⟩ (by kernel_rfl) (by kernel_rfl) (by kernel_rfl) rfl rfl rfl ?_
                          clear hd e4 e9
                          go_wp2
                          exact ⟨rfl, Ext.refl _, rfl⟩
                        · intro vals w1 hx hd
                          have e10 : vals 10 = .bool true := hd 10 (by decide)
                          refine .run [(104, .bool true)] { dst := some 0, op := Go.Op.move (Go.Operand.const (.bool true)), type := 4, pos := "", after := #[], guard := none } 105 ⟨.inn 10 (by kernel_rfl) e10, trivial⟩ (by kernel_rfl) (by kernel_rfl) (by kernel_rfl) rfl rfl rfl ?_
                          clear hd e10
                          go_wp2
                          exact ⟨rfl, Ext.refl _, rfl⟩
                        · intro vals w1 hx hd
                          have e11 : vals 11 = .bool true := hd 11 (by decide)
                          refine .run [(14, .slice (some ⟨ga2, gao2, none⟩) nA cA), (105, .bool true)] { dst := some 0, op := Go.Op.move (Go.Operand.const (.slice (some ⟨ga2, gao2, none⟩) nA cA)), type := 32, pos := "", after := #[], guard := none } 106 ⟨.out (by kernel_rfl) (by kernel_rfl), .inn 11 (by kernel_rfl) e11, trivial⟩ (by kernel_rfl) (by kernel_rfl) (by kernel_rfl) rfl rfl rfl ?_
                          clear hd e11
                          go_wp2
                          exact ⟨rfl, Ext.refl _, rfl⟩
                        · intro vals w1 hx hd
                          have e11 : vals 11 = .bool true := hd 11 (by decide)
                          refine .run [(22, .int .i64 (n : Int)), (105, .bool true)] { dst := some 0, op := Go.Op.move (Go.Operand.const (.int .i64 (n : Int))), type := 3, pos := "", after := #[], guard := none } 107 ⟨.out (by kernel_rfl) (by kernel_rfl), .inn 11 (by kernel_rfl) e11, trivial⟩ (by kernel_rfl) (by kernel_rfl) (by kernel_rfl) rfl rfl rfl ?_
                          clear hd e11
                          go_wp2
                          exact ⟨rfl, Ext.refl _, rfl⟩
                        · intro vals w1 hx hd
                          have e12 : vals 12 = .slice (some ⟨ga2, gao2, none⟩) nA cA := hd 12 (by decide)
                          have e13 : vals 13 = .int .i64 (n : Int) := hd 13 (by decide)
                          have e11 : vals 11 = .bool true := hd 11 (by decide)
                          refine .run [(106, .slice (some ⟨ga2, gao2, none⟩) nA cA), (107, .int .i64 (n : Int)), (105, .bool true)] { dst := some 0, op := Go.Op.indexAddr 32 (Go.Operand.const (.slice (some ⟨ga2, gao2, none⟩) nA cA)) (Go.Operand.const (.int .i64 (n : Int))), type := 0, pos := "", after := #[], guard := none } 108 ⟨.inn 12 (by kernel_rfl) e12, .inn 13 (by kernel_rfl) e13, .inn 11 (by kernel_rfl) e11, trivial⟩ (by kernel_rfl) (by kernel_rfl) (by kernel_rfl) rfl rfl rfl ?_
                          clear hd e12 e13 e11
                          go_wp2
                          exact ⟨rfl, Ext.refl _, rfl⟩
                        · intro vals w1 hx hd
                          have e14 : vals 14 = .pointer (some ⟨ga2, gao2 + n * 6, none⟩) := hd 14 (by decide)
                          have e11 : vals 11 = .bool true := hd 11 (by decide)
                          refine .run [(108, .pointer (some ⟨ga2, gao2 + n * 6, none⟩)), (105, .bool true)] { dst := some 0, op := Go.Op.fieldAddr 47 (Go.Operand.const (.pointer (some ⟨ga2, gao2 + n * 6, none⟩))) 1, type := 0, pos := "", after := #[], guard := none } 109 ⟨.inn 14 (by kernel_rfl) e14, .inn 11 (by kernel_rfl) e11, trivial⟩ (by kernel_rfl) (by kernel_rfl) (by kernel_rfl) rfl rfl rfl ?_
                          clear hd e14 e11
                          go_wp2
                          exact ⟨rfl, Ext.refl _, rfl⟩
                        · intro vals w1 hx hd
                          have e15 : vals 15 = .pointer (some ⟨ga2, gao2 + n * 6 + 1, none⟩) := hd 15 (by decide)
                          have e11 : vals 11 = .bool true := hd 11 (by decide)
                          refine .run [(109, .pointer (some ⟨ga2, gao2 + n * 6 + 1, none⟩)), (105, .bool true)] { dst := some 0, op := Go.Op.load 3 (Go.Operand.const (.pointer (some ⟨ga2, gao2 + n * 6 + 1, none⟩))), type := 3, pos := "", after := #[], guard := none } 110 ⟨.inn 15 (by kernel_rfl) e15, .inn 11 (by kernel_rfl) e11, trivial⟩ (by kernel_rfl) (by kernel_rfl) (by kernel_rfl) rfl rfl rfl ?_
                          clear hd e15 e11
                          have d1 := ext_cell hx d1
                          go_wp2
                          exact ⟨rfl, Ext.refl _, rfl⟩
                        · intro vals w1 hx hd
                          have e11 : vals 11 = .bool true := hd 11 (by decide)
                          refine .run [(12, .slice (some ⟨gt, gto, none⟩) mt cHRT), (105, .bool true)] { dst := some 0, op := Go.Op.move (Go.Operand.const (.slice (some ⟨gt, gto, none⟩) mt cHRT)), type := 38, pos := "", after := #[], guard := none } 111 ⟨.out (by kernel_rfl) (by kernel_rfl), .inn 11 (by kernel_rfl) e11, trivial⟩ (by kernel_rfl) (by kernel_rfl) (by kernel_rfl) rfl rfl rfl ?_
                          clear hd e11
                          go_wp2
                          exact ⟨rfl, Ext.refl _, rfl⟩
                        · intro vals w1 hx hd
                          have e11 : vals 11 = .bool true := hd 11 (by decide)
                          refine .run [(18, .int .i64 (k : Int)), (105, .bool true)] { dst := some 0, op := Go.Op.move (Go.Operand.const (.int .i64 (k : Int))), type := 3, pos := "", after := #[], guard := none } 112 ⟨.out (by kernel_rfl) (by kernel_rfl), .inn 11 (by kernel_rfl) e11, trivial⟩ (by kernel_rfl) (by kernel_rfl) (by kernel_rfl) rfl rfl rfl ?_
                          clear hd e11
                          go_wp2
                          exact ⟨rfl, Ext.refl _, rfl⟩
                        · intro vals w1 hx hd
                          have e17 : vals 17 = .slice (some ⟨gt, gto, none⟩) mt cHRT := hd 17 (by decide)
                          have e18 : vals 18 = .int .i64 (k : Int) := hd 18 (by decide)
                          have e11 : vals 11 = .bool true := hd 11 (by decide)
                          refine .run [(111, .slice (some ⟨gt, gto, none⟩) mt cHRT), (112, .int .i64 (k : Int)), (105, .bool true)] { dst := some 0, op := Go.Op.indexAddr 38 (Go.Operand.const (.slice (some ⟨gt, gto, none⟩) mt cHRT)) (Go.Operand.const (.int .i64 (k : Int))), type := 0, pos := "", after := #[], guard := none } 113 ⟨.inn 17 (by kernel_rfl) e17, .inn 18 (by kernel_rfl) e18, .inn 11 (by kernel_rfl) e11, trivial⟩ (by kernel_rfl) (by kernel_rfl) (by kernel_rfl) rfl rfl rfl ?_
                          clear hd e17 e18 e11
                          go_wp2
                          exact ⟨rfl, Ext.refl _, rfl⟩
                        · intro vals w1 hx hd
                          have e19 : vals 19 = .pointer (some ⟨gt, gto + k * 6, none⟩) := hd 19 (by decide)
                          have e11 : vals 11 = .bool true := hd 11 (by decide)
                          refine .run [(113, .pointer (some ⟨gt, gto + k * 6, none⟩)), (105, .bool true)] { dst := some 0, op := Go.Op.fieldAddr 31 (Go.Operand.const (.pointer (some ⟨gt, gto + k * 6, none⟩))) 0, type := 0, pos := "", after := #[], guard := none } 114 ⟨.inn 19 (by kernel_rfl) e19, .inn 11 (by kernel_rfl) e11, trivial⟩ (by kernel_rfl) (by kernel_rfl) (by kernel_rfl) rfl rfl rfl ?_
                          clear hd e19 e11
                          go_wp2
                          exact ⟨rfl, Ext.refl _, rfl⟩
                        · intro vals w1 hx hd
                          have e20 : vals 20 = .pointer (some ⟨gt, gto + k * 6, none⟩) := hd 20 (by decide)
                          have e11 : vals 11 = .bool true := hd 11 (by decide)
                          refine .run [(114, .pointer (some ⟨gt, gto + k * 6, none⟩)), (105, .bool true)] { dst := some 0, op := Go.Op.load 3 (Go.Operand.const (.pointer (some ⟨gt, gto + k * 6, none⟩))), type := 3, pos := "", after := #[], guard := none } 115 ⟨.inn 20 (by kernel_rfl) e20, .inn 11 (by kernel_rfl) e11, trivial⟩ (by kernel_rfl) (by kernel_rfl) (by kernel_rfl) rfl rfl rfl ?_
                          clear hd e20 e11
                          have i1 := ext_cell hx i1
                          go_wp2
                          exact ⟨rfl, Ext.refl _, rfl⟩
                        · intro vals w1 hx hd
                          have e16 : vals 16 = .int .i64 pb := hd 16 (by decide)
                          have e21 : vals 21 = .int .i64 pb := hd 21 (by decide)
                          have e11 : vals 11 = .bool true := hd 11 (by decide)
                          refine .run [(110, .int .i64 pb), (115, .int .i64 pb), (105, .bool true)] { dst := some 0, op := Go.Op.binOp Go.BinOp.eql 3 (Go.Operand.const (.int .i64 pb)) (Go.Operand.const (.int .i64 pb)) 3, type := 4, pos := "", after := #[], guard := none } 116 ⟨.inn 16 (by kernel_rfl) e16, .inn 21 (by kernel_rfl) e21, .inn 11 (by kernel_rfl) e11, trivial⟩ (by kernel_rfl) (by kernel_rfl) (by kernel_rfl) rfl rfl rfl ?_
                          clear hd e16 e21 e11
                          go_wp2
                          exact ⟨rfl, Ext.refl _, rfl⟩
                        · intro vals w1 hx hd
                          have e11 : vals 11 = .bool true := hd 11 (by decide)
                          have e22 : vals 22 = .bool true := hd 22 (by decide)
                          refine .run [(105, .bool true), (116, .bool true)] { dst := some 0, op := Go.Op.pick (Go.Operand.const (.bool true)) (Go.Operand.const (.bool true)) (Go.Operand.const (Go.Value.bool false)), type := 4, pos := "", after := #[], guard := none } 117 ⟨.inn 11 (by kernel_rfl) e11, .inn 22 (by kernel_rfl) e22, trivial⟩ (by kernel_rfl) (by kernel_rfl) (by kernel_rfl) rfl rfl rfl ?_
                          clear hd e11 e22
                          go_wp2
                          exact ⟨rfl, Ext.refl _, rfl⟩
                      intro vals Wf hx9 hf
                      have e23 : vals 23 = .bool true := hf 23 (by omega)
                      clear hf d0 d1 i0 i1
                      have hx9 := hx9.undrew
                      have hz := Ext.trans hz hx9
                      have HO := Lib.hid (own_ext HO.out hx9)
                      have HRY := Lib.hid (RA.range2 HRY.out hx9)
                      clear hx9
                      refine tail0 (by kernel_rfl) ?_
                      simp only [Lf, dstAt, Act.put, List.getElem?_toArray, List.getElem?_cons_zero, List.getElem?_cons_succ, Option.bind_some, List.setIfInBounds_toArray, List.set_cons_zero, List.set_cons_succ]
                      rw [e23]
                      clear e23
                      obtain ⟨A3, c3, hv3, _, _⟩ := own_slice HO.out
                      subst hv3
                      have hrow := own_ext HO.out (show Ext Wf (Wf.alloc (.cells Y 47)) from bl_alloc (Below.refl _ _) _)
                      have hz5 := Ext.trans hz (show Ext Wf (Wf.alloc (.cells Y 47)) from bl_alloc (Below.refl _ _) _)
                      have jx : Blk (Wf.alloc (.cells Y 47)) Wf.heap.size 47 Y := Blk.new _ _ _
                      obtain ⟨w5, hw5⟩ : ∃ w5, w5 = Wf.alloc (.cells Y 47) := ⟨_, rfl⟩
                      obtain ⟨gx, hgx⟩ : ∃ g, g = Wf.heap.size := ⟨_, rfl⟩
                      rw [← hw5] at hz5 hrow jx
                      rw [← hgx] at jx
                      have hBs := Below.size hz5
                      obtain ⟨i0, hi0, hz0, hz1, hz2⟩ := info_parts info_pas
                      obtain ⟨v2, W7, hr, hrow2, hg2, -⟩ := run_append_own (P := Try.prog) w5 We.heap.size 32 32 47 i0 _ 6 48 Try.underlying32 hi0 hz0 hz1 hz2 rfl (by omega) _ _ _ hrow ⟨gx, 0, none⟩ 1 1 Y.toList (by rw [Array.length_toList, HZY.out]) (by intro i u hu; rw [Addr.add_lit, Nat.zero_add, jx.cell]; simpa using hu) (List.all_eq_true.1 (by rw [Array.all_toList]; exact HOY.out)) (by unfold maxLen; omega) (by omega) (by omega)
                      have hz7 : Ext We W7 := hz5.grown hg2 hBs (fun q e => (World.ownsRow.lt hrow q e).1)
                      have HO2 : Hid (W7.ownsRow We.heap.size 47 6 v2 ((AL.take (n + 1)).filter (ofPair pa pb)).length (((AL.take (n + 1)).filter (ofPair pa pb)).flatMap pasCells)) := Lib.hid (by rw [HST.out, HOP.out, hf1, if_pos rfl, List.length_append, List.flatMap_append]; simpa [HYL.out] using hrow2)
                      rw [hw5, hgx] at hr
                      have HRUN := Lib.hid hr
                      clear hr hrow hrow2 hg2 jx hz5 hBs HO hw5 hgx hi0 hz0 hz1 hz2 hf1
                      go_wp2_with (first | (refine wpList_load_st rfl 47 _ rfl ga2 (gao2 + n * 6) rfl Y Y.toList (by simp) _ (HRY.out) Try.underlying47 rfl (by rw [Array.length_toList, HZY.out]; exact pas_sizeT) ?_) | (refine wpList_buildOne rfl 32 47 _ rfl Y rfl Try.underlying32 6 info_pas2T HZY.out (by omega) (by omega) ?_) | (refine wpList_append_run_ rfl _ _ _ rfl rfl rfl HRUN.out ?_))
                      clear HRUN
                      go_roundw
                      case rel => exact ⟨n + 1, by omega, by go_num, HO2, hz7⟩
                      case measure => simp [intOf]; omega
                    · skip
                      have hf1 : (decide (pa = sid) && decide (pb = yid)) = false := by simp [hpb]
                      subst hpa
                      have qb : (pb == yid) = false := by simp [hpb]
                      clear hpb
                      go_upto_region 24 with (fail)
                      refine wp_region_obl 24 (fun ix vals v w1 => match ix with | 0 => v = .slice (some ⟨ga2, gao2, none⟩) nA cA | 1 => v = .int .i64 (n : Int) | 2 => v = .pointer (some ⟨ga2, gao2 + n * 6, none⟩) | 3 => v = .pointer (some ⟨ga2, gao2 + n * 6, none⟩) | 4 => v = .int .i64 pa | 5 => v = .slice (some ⟨gs, gso, none⟩) ms cHRS | 6 => v = .int .i64 (i : Int) | 7 => v = .pointer (some ⟨gs, gso + i * 21, none⟩) | 8 => v = .pointer (some ⟨gs, gso + i * 21, none⟩) | 9 => v = .int .i64 pa | 10 => v = .bool true | 11 => v = .bool true | 12 => v = .slice (some ⟨ga2, gao2, none⟩) nA cA | 13 => v = .int .i64 (n : Int) | 14 => v = .pointer (some ⟨ga2, gao2 + n * 6, none⟩) | 15 => v = .pointer (some ⟨ga2, gao2 + n * 6 + 1, none⟩) | 16 => v = .int .i64 pb | 17 => v = .slice (some ⟨gt, gto, none⟩) mt cHRT | 18 => v = .int .i64 (k : Int) | 19 => v = .pointer (some ⟨gt, gto + k * 6, none⟩) | 20 => v = .pointer (some ⟨gt, gto + k * 6, none⟩) | 21 => v = .int .i64 yid | 22 => v = .bool false | _ => v = .bool false) (by kernel_rfl) (by kernel_rfl) ?_ ?_ ?_ ?_
                      · intro ix vals v w1 w2 hi hr hx
                        match ix, hr with
                        | 0, hr => exact hr
                        | 1, hr => exact hr
                        | 2, hr => exact hr
                        | 3, hr => exact hr
                        | 4, hr => exact hr
                        | 5, hr => exact hr
                        | 6, hr => exact hr
                        | 7, hr => exact hr
                        | 8, hr => exact hr
                        | 9, hr => exact hr
                        | 10, hr => exact hr
                        | 11, hr => exact hr
                        | 12, hr => exact hr
                        | 13, hr => exact hr
                        | 14, hr => exact hr
                        | 15, hr => exact hr
                        | 16, hr => exact hr
                        | 17, hr => exact hr
                        | 18, hr => exact hr
                        | 19, hr => exact hr
                        | 20, hr => exact hr
                        | 21, hr => exact hr
                        | 22, hr => exact hr
                        | (kx + 23), hr => exact hr
                      · intro ix vals vals_ v w1 hi hv hr
                        exact hr
                      · refine obls_ofT [some 94, some 95, some 96, some 97, some 98, some 99, some 100, some 101, some 102, some 103, some 104, some 105, some 106, some 107, some 108, some 109, some 110, some 111, some 112, some 113, some 114, some 115, some 116, some 117] [(14, .slice (some ⟨ga2, gao2, none⟩) nA cA), (22, .int .i64 (n : Int)), (11, .slice (some ⟨gs, gso, none⟩) ms cHRS), (17, .int .i64 (i : Int)), (12, .slice (some ⟨gt, gto, none⟩) mt cHRT), (18, .int .i64 (k : Int))] 145 (by kernel_rfl) (by kernel_rfl) ⟨by kernel_rfl, by kernel_rfl, by kernel_rfl, by kernel_rfl, by kernel_rfl, by kernel_rfl, trivial⟩ ?_
                        refine ⟨?_, ?_, ?_, ?_, ?_, ?_, ?_, ?_, ?_, ?_, ?_, ?_, ?_, ?_, ?_, ?_, ?_, ?_, ?_, ?_, ?_, ?_, ?_, ?_, trivial⟩
                        · intro vals w1 hx hd
                          refine .run [(14, .slice (some ⟨ga2, gao2, none⟩) nA cA)] { dst := some 0, op := Go.Op.move (Go.Operand.const (.slice (some ⟨ga2, gao2, none⟩) nA cA)), type := 32, pos := "", after := #[], guard := none } 94 ⟨.out (by kernel_rfl) (by kernel_rfl), trivial⟩ (by kernel_rfl) (by kernel_rfl) (by kernel_rfl) rfl rfl rfl ?_
                          clear hd
                          go_wp2
                          exact ⟨rfl, Ext.refl _, rfl⟩
                        · intro vals w1 hx hd
                          refine .run [(22, .int .i64 (n : Int))] { dst := some 0, op := Go.Op.move (Go.Operand.const (.int .i64 (n : Int))), type := 3, pos := "", after := #[], guard := none } 95 ⟨.out (by kernel_rfl) (by kernel_rfl), trivial⟩ (by kernel_rfl) (by kernel_rfl) (by kernel_rfl) rfl rfl rfl ?_
                          clear hd
                          go_wp2
                          exact ⟨rfl, Ext.refl _, rfl⟩
                        · intro vals w1 hx hd
                          have e0 : vals 0 = .slice (some ⟨ga2, gao2, none⟩) nA cA := hd 0 (by decide)
                          have e1 : vals 1 = .int .i64 (n : Int) := hd 1 (by decide)
                          refine .run [(94, .slice (some ⟨ga2, gao2, none⟩) nA cA), (95, .int .i64 (n : Int))] { dst := some 0, op := Go.Op.indexAddr 32 (Go.Operand.const (.slice (some ⟨ga2, gao2, none⟩) nA cA)) (Go.Operand.const (.int .i64 (n : Int))), type := 0, pos := "", after := #[], guard := none } 96 ⟨.inn 0 (by kernel_rfl) e0, .inn 1 (by kernel_rfl) e1, trivial⟩ (by kernel_rfl) (by kernel_rfl) (by kernel_rfl) rfl rfl rfl ?_
                          clear hd e0 e1
                          go_wp2
                          exact ⟨rfl, Ext.refl _, rfl⟩
                        · intro vals w1 hx hd
                          have e2 : vals 2 = .pointer (some ⟨ga2, gao2 + n * 6, none⟩) := hd 2 (by decide)
                          refine .run [(96, .pointer (some ⟨ga2, gao2 + n * 6, none⟩))] { dst := some 0, op := Go.Op.fieldAddr 47 (Go.Operand.const (.pointer (some ⟨ga2, gao2 + n * 6, none⟩))) 0, type := 0, pos := "", after := #[], guard := none } 97 ⟨.inn 2 (by kernel_rfl) e2, trivial⟩ (by kernel_rfl) (by kernel_rfl) (by kernel_rfl) rfl rfl rfl ?_
                          clear hd e2
                          go_wp2
                          exact ⟨rfl, Ext.refl _, rfl⟩
                        · intro vals w1 hx hd
                          have e3 : vals 3 = .pointer (some ⟨ga2, gao2 + n * 6, none⟩) := hd 3 (by decide)
                          refine .run [(97, .pointer (some ⟨ga2, gao2 + n * 6, none⟩))] { dst := some 0, op := Go.Op.load 3 (Go.Operand.const (.pointer (some ⟨ga2, gao2 + n * 6, none⟩))), type := 3, pos := "", after := #[], guard := none } 98 ⟨.inn 3 (by kernel_rfl) e3, trivial⟩ (by kernel_rfl) (by kernel_rfl) (by kernel_rfl) rfl rfl rfl ?_
                          clear hd e3
                          have d0 := ext_cell hx d0
                          go_wp2
                          exact ⟨rfl, Ext.refl _, rfl⟩
                        · intro vals w1 hx hd
                          refine .run [(11, .slice (some ⟨gs, gso, none⟩) ms cHRS)] { dst := some 0, op := Go.Op.move (Go.Operand.const (.slice (some ⟨gs, gso, none⟩) ms cHRS)), type := 36, pos := "", after := #[], guard := none } 99 ⟨.out (by kernel_rfl) (by kernel_rfl), trivial⟩ (by kernel_rfl) (by kernel_rfl) (by kernel_rfl) rfl rfl rfl ?_
                          clear hd
                          go_wp2
                          exact ⟨rfl, Ext.refl _, rfl⟩
                        · intro vals w1 hx hd
                          refine .run [(17, .int .i64 (i : Int))] { dst := some 0, op := Go.Op.move (Go.Operand.const (.int .i64 (i : Int))), type := 3, pos := "", after := #[], guard := none } 100 ⟨.out (by kernel_rfl) (by kernel_rfl), trivial⟩ (by kernel_rfl) (by kernel_rfl) (by kernel_rfl) rfl rfl rfl ?_
                          clear hd
                          go_wp2
                          exact ⟨rfl, Ext.refl _, rfl⟩
                        · intro vals w1 hx hd
                          have e5 : vals 5 = .slice (some ⟨gs, gso, none⟩) ms cHRS := hd 5 (by decide)
                          have e6 : vals 6 = .int .i64 (i : Int) := hd 6 (by decide)
                          refine .run [(99, .slice (some ⟨gs, gso, none⟩) ms cHRS), (100, .int .i64 (i : Int))] { dst := some 0, op := Go.Op.indexAddr 36 (Go.Operand.const (.slice (some ⟨gs, gso, none⟩) ms cHRS)) (Go.Operand.const (.int .i64 (i : Int))), type := 0, pos := "", after := #[], guard := none } 101 ⟨.inn 5 (by kernel_rfl) e5, .inn 6 (by kernel_rfl) e6, trivial⟩ (by kernel_rfl) (by kernel_rfl) (by kernel_rfl) rfl rfl rfl ?_
                          clear hd e5 e6
                          go_wp2
                          exact ⟨rfl, Ext.refl _, rfl⟩
                        · intro vals w1 hx hd
                          have e7 : vals 7 = .pointer (some ⟨gs, gso + i * 21, none⟩) := hd 7 (by decide)
                          refine .run [(101, .pointer (some ⟨gs, gso + i * 21, none⟩))] { dst := some 0, op := Go.Op.fieldAddr 27 (Go.Operand.const (.pointer (some ⟨gs, gso + i * 21, none⟩))) 0, type := 0, pos := "", after := #[], guard := none } 102 ⟨.inn 7 (by kernel_rfl) e7, trivial⟩ (by kernel_rfl) (by kernel_rfl) (by kernel_rfl) rfl rfl rfl ?_
                          clear hd e7
                          go_wp2
                          exact ⟨rfl, Ext.refl _, rfl⟩
                        · intro vals w1 hx hd
                          have e8 : vals 8 = .pointer (some ⟨gs, gso + i * 21, none⟩) := hd 8 (by decide)
                          refine .run [(102, .pointer (some ⟨gs, gso + i * 21, none⟩))] { dst := some 0, op := Go.Op.load 3 (Go.Operand.const (.pointer (some ⟨gs, gso + i * 21, none⟩))), type := 3, pos := "", after := #[], guard := none } 103 ⟨.inn 8 (by kernel_rfl) e8, trivial⟩ (by kernel_rfl) (by kernel_rfl) (by kernel_rfl) rfl rfl rfl ?_
                          clear hd e8
                          have i0 := ext_cell hx i0
                          go_wp2
                          exact ⟨rfl, Ext.refl _, rfl⟩
                        · intro vals w1 hx hd
                          have e4 : vals 4 = .int .i64 pa := hd 4 (by decide)
                          have e9 : vals 9 = .int .i64 pa := hd 9 (by decide)
                          refine .run [(98, .int .i64 pa), (103, .int .i64 pa)] { dst := some 0, op := Go.Op.binOp Go.BinOp.eql 3 (Go.Operand.const (.int .i64 pa)) (Go.Operand.const (.int .i64 pa)) 3, type := 4, pos := "", after := #[], guard := none } 104 ⟨.inn 4 (by kernel_rfl) e4, .inn 9 (by kernel_rfl) e9, trivial⟩ (by kernel_rfl) (by kernel_rfl) (by kernel_rfl) rfl rfl rfl ?_
                          clear hd e4 e9
                          go_wp2
                          exact ⟨rfl, Ext.refl _, rfl⟩
                        · intro vals w1 hx hd
                          have e10 : vals 10 = .bool true := hd 10 (by decide)
                          refine .run [(104, .bool true)] { dst := some 0, op := Go.Op.move (Go.Operand.const (.bool true)), type := 4, pos := "", after := #[], guard := none } 105 ⟨.inn 10 (by kernel_rfl) e10, trivial⟩ (by kernel_rfl) (by kernel_rfl) (by kernel_rfl) rfl rfl rfl ?_
                          clear hd e10
                          go_wp2
                          exact ⟨rfl, Ext.refl _, rfl⟩
                        · intro vals w1 hx hd
                          have e11 : vals 11 = .bool true := hd 11 (by decide)
                          refine .run [(14, .slice (some ⟨ga2, gao2, none⟩) nA cA), (105, .bool true)] { dst := some 0, op := Go.Op.move (Go.Operand.const (.slice (some ⟨ga2, gao2, none⟩) nA cA)), type := 32, pos := "", after := #[], guard := none } 106 ⟨.out (by kernel_rfl) (by kernel_rfl), .inn 11 (by kernel_rfl) e11, trivial⟩ (by kernel_rfl) (by kernel_rfl) (by kernel_rfl) rfl rfl rfl ?_
                          clear hd e11
                          go_wp2
                          exact ⟨rfl, Ext.refl _, rfl⟩
                        · intro vals w1 hx hd
                          have e11 : vals 11 = .bool true := hd 11 (by decide)
                          refine .run [(22, .int .i64 (n : Int)), (105, .bool true)] { dst := some 0, op := Go.Op.move (Go.Operand.const (.int .i64 (n : Int))), type := 3, pos := "", after := #[], guard := none } 107 ⟨.out (by kernel_rfl) (by kernel_rfl), .inn 11 (by kernel_rfl) e11, trivial⟩ (by kernel_rfl) (by kernel_rfl) (by kernel_rfl) rfl rfl rfl ?_
                          clear hd e11
                          go_wp2
                          exact ⟨rfl, Ext.refl _, rfl⟩
                        · intro vals w1 hx hd
                          have e12 : vals 12 = .slice (some ⟨ga2, gao2, none⟩) nA cA := hd 12 (by decide)
                          have e13 : vals 13 = .int .i64 (n : Int) := hd 13 (by decide)
                          have e11 : vals 11 = .bool true := hd 11 (by decide)
                          refine .run [(106, .slice (some ⟨ga2, gao2, none⟩) nA cA), (107, .int .i64 (n : Int)), (105, .bool true)] { dst := some 0, op := Go.Op.indexAddr 32 (Go.Operand.const (.slice (some ⟨ga2, gao2, none⟩) nA cA)) (Go.Operand.const (.int .i64 (n : Int))), type := 0, pos := "", after := #[], guard := none } 108 ⟨.inn 12 (by kernel_rfl) e12, .inn 13 (by kernel_rfl) e13, .inn 11 (by kernel_rfl) e11, trivial⟩ (by kernel_rfl) (by kernel_rfl) (by kernel_rfl) rfl rfl rfl ?_
                          clear hd e12 e13 e11
                          go_wp2
                          exact ⟨rfl, Ext.refl _, rfl⟩
                        · intro vals w1 hx hd
                          have e14 : vals 14 = .pointer (some ⟨ga2, gao2 + n * 6, none⟩) := hd 14 (by decide)
                          have e11 : vals 11 = .bool true := hd 11 (by decide)
                          refine .run [(108, .pointer (some ⟨ga2, gao2 + n * 6, none⟩)), (105, .bool true)] { dst := some 0, op := Go.Op.fieldAddr 47 (Go.Operand.const (.pointer (some ⟨ga2, gao2 + n * 6, none⟩))) 1, type := 0, pos := "", after := #[], guard := none } 109 ⟨.inn 14 (by kernel_rfl) e14, .inn 11 (by kernel_rfl) e11, trivial⟩ (by kernel_rfl) (by kernel_rfl) (by kernel_rfl) rfl rfl rfl ?_
                          clear hd e14 e11
                          go_wp2
                          exact ⟨rfl, Ext.refl _, rfl⟩
                        · intro vals w1 hx hd
                          have e15 : vals 15 = .pointer (some ⟨ga2, gao2 + n * 6 + 1, none⟩) := hd 15 (by decide)
                          have e11 : vals 11 = .bool true := hd 11 (by decide)
                          refine .run [(109, .pointer (some ⟨ga2, gao2 + n * 6 + 1, none⟩)), (105, .bool true)] { dst := some 0, op := Go.Op.load 3 (Go.Operand.const (.pointer (some ⟨ga2, gao2 + n * 6 + 1, none⟩))), type := 3, pos := "", after := #[], guard := none } 110 ⟨.inn 15 (by kernel_rfl) e15, .inn 11 (by kernel_rfl) e11, trivial⟩ (by kernel_rfl) (by kernel_rfl) (by kernel_rfl) rfl rfl rfl ?_
                          clear hd e15 e11
                          have d1 := ext_cell hx d1
                          go_wp2
                          exact ⟨rfl, Ext.refl _, rfl⟩
                        · intro vals w1 hx hd
                          have e11 : vals 11 = .bool true := hd 11 (by decide)
                          refine .run [(12, .slice (some ⟨gt, gto, none⟩) mt cHRT), (105, .bool true)] { dst := some 0, op := Go.Op.move (Go.Operand.const (.slice (some ⟨gt, gto, none⟩) mt cHRT)), type := 38, pos := "", after := #[], guard := none } 111 ⟨.out (by kernel_rfl) (by kernel_rfl), .inn 11 (by kernel_rfl) e11, trivial⟩ (by kernel_rfl) (by kernel_rfl) (by kernel_rfl) rfl rfl rfl ?_
                          clear hd e11
                          go_wp2
                          exact ⟨rfl, Ext.refl _, rfl⟩
                        · intro vals w1 hx hd
                          have e11 : vals 11 = .bool true := hd 11 (by decide)
                          refine .run [(18, .int .i64 (k : Int)), (105, .bool true)] { dst := some 0, op := Go.Op.move (Go.Operand.const (.int .i64 (k : Int))), type := 3, pos := "", after := #[], guard := none } 112 ⟨.out (by kernel_rfl) (by kernel_rfl), .inn 11 (by kernel_rfl) e11, trivial⟩ (by kernel_rfl) (by kernel_rfl) (by kernel_rfl) rfl rfl rfl ?_
                          clear hd e11
                          go_wp2
                          exact ⟨rfl, Ext.refl _, rfl⟩
                        · intro vals w1 hx hd
                          have e17 : vals 17 = .slice (some ⟨gt, gto, none⟩) mt cHRT := hd 17 (by decide)
                          have e18 : vals 18 = .int .i64 (k : Int) := hd 18 (by decide)
                          have e11 : vals 11 = .bool true := hd 11 (by decide)
                          refine .run [(111, .slice (some ⟨gt, gto, none⟩) mt cHRT), (112, .int .i64 (k : Int)), (105, .bool true)] { dst := some 0, op := Go.Op.indexAddr 38 (Go.Operand.const (.slice (some ⟨gt, gto, none⟩) mt cHRT)) (Go.Operand.const (.int .i64 (k : Int))), type := 0, pos := "", after := #[], guard := none } 113 ⟨.inn 17 (by kernel_rfl) e17, .inn 18 (by kernel_rfl) e18, .inn 11 (by kernel_rfl) e11, trivial⟩ (by kernel_rfl) (by kernel_rfl) (by kernel_rfl) rfl rfl rfl ?_
                          clear hd e17 e18 e11
                          go_wp2
                          exact ⟨rfl, Ext.refl _, rfl⟩
                        · intro vals w1 hx hd
                          have e19 : vals 19 = .pointer (some ⟨gt, gto + k * 6, none⟩) := hd 19 (by decide)
                          have e11 : vals 11 = .bool true := hd 11 (by decide)
                          refine .run [(113, .pointer (some ⟨gt, gto + k * 6, none⟩)), (105, .bool true)] { dst := some 0, op := Go.Op.fieldAddr 31 (Go.Operand.const (.pointer (some ⟨gt, gto + k * 6, none⟩))) 0, type := 0, pos := "", after := #[], guard := none } 114 ⟨.inn 19 (by kernel_rfl) e19, .inn 11 (by kernel_rfl) e11, trivial⟩ (by kernel_rfl) (by kernel_rfl) (by kernel_rfl) rfl rfl rfl ?_
                          clear hd e19 e11
                          go_wp2
                          exact ⟨rfl, Ext.refl _, rfl⟩
                        · intro vals w1 hx hd
                          have e20 : vals 20 = .pointer (some ⟨gt, gto + k * 6, none⟩) := hd 20 (by decide)
                          have e11 : vals 11 = .bool true := hd 11 (by decide)
                          refine .run [(114, .pointer (some ⟨gt, gto + k * 6, none⟩)), (105, .bool true)] { dst := some 0, op := Go.Op.load 3 (Go.Operand.const (.pointer (some ⟨gt, gto + k * 6, none⟩))), type := 3, pos := "", after := #[], guard := none } 115 ⟨.inn 20 (by kernel_rfl) e20, .inn 11 (by kernel_rfl) e11, trivial⟩ (by kernel_rfl) (by kernel_rfl) (by kernel_rfl) rfl rfl rfl ?_
                          clear hd e20 e11
                          have i1 := ext_cell hx i1
                          go_wp2
                          exact ⟨rfl, Ext.refl _, rfl⟩
                        · intro vals w1 hx hd
                          have e16 : vals 16 = .int .i64 pb := hd 16 (by decide)
                          have e21 : vals 21 = .int .i64 yid := hd 21 (by decide)
                          have e11 : vals 11 = .bool true := hd 11 (by decide)
                          refine .run [(110, .int .i64 pb), (115, .int .i64 yid), (105, .bool true)] { dst := some 0, op := Go.Op.binOp Go.BinOp.eql 3 (Go.Operand.const (.int .i64 pb)) (Go.Operand.const (.int .i64 yid)) 3, type := 4, pos := "", after := #[], guard := none } 116 ⟨.inn 16 (by kernel_rfl) e16, .inn 21 (by kernel_rfl) e21, .inn 11 (by kernel_rfl) e11, trivial⟩ (by kernel_rfl) (by kernel_rfl) (by kernel_rfl) rfl rfl rfl ?_
                          clear hd e16 e21 e11
                          go_wp2
                          exact ⟨rfl, Ext.refl _, rfl⟩
                        · intro vals w1 hx hd
                          have e11 : vals 11 = .bool true := hd 11 (by decide)
                          have e22 : vals 22 = .bool false := hd 22 (by decide)
                          refine .run [(105, .bool true), (116, .bool false)] { dst := some 0, op := Go.Op.pick (Go.Operand.const (.bool true)) (Go.Operand.const (.bool false)) (Go.Operand.const (Go.Value.bool false)), type := 4, pos := "", after := #[], guard := none } 117 ⟨.inn 11 (by kernel_rfl) e11, .inn 22 (by kernel_rfl) e22, trivial⟩ (by kernel_rfl) (by kernel_rfl) (by kernel_rfl) rfl rfl rfl ?_
                          clear hd e11 e22
                          go_wp2
                          exact ⟨rfl, Ext.refl _, rfl⟩
                      intro vals Wf hx9 hf
                      have e23 : vals 23 = .bool false := hf 23 (by omega)
                      clear hf d0 d1 i0 i1
                      have hx9 := hx9.undrew
                      have hz := Ext.trans hz hx9
                      have HO := Lib.hid (own_ext HO.out hx9)
                      clear hx9 qb
                      refine tail0 (by kernel_rfl) ?_
                      simp only [Lf, dstAt, Act.put, List.getElem?_toArray, List.getElem?_cons_zero, List.getElem?_cons_succ, Option.bind_some, List.setIfInBounds_toArray, List.set_cons_zero, List.set_cons_succ]
                      rw [e23]
                      clear e23
                      have HO2 : Hid (Wf.ownsRow We.heap.size 47 6 u21 ((AL.take (n + 1)).filter (ofPair pa yid)).length (((AL.take (n + 1)).filter (ofPair pa yid)).flatMap pasCells)) := Lib.hid (by rw [HST.out, HOP.out, hf1]; simpa using HO.out)
                      clear HO hf1
                      go_wp2
                      go_roundw
                      case rel => exact ⟨n + 1, by omega, by go_num, HO2, hz⟩
                      case measure => simp [intOf]; omega
                  · skip
                    have hf1 : (decide (pa = sid) && decide (pb = yid)) = false := by simp [hpa]
                    have qb : (pa == sid) = false := by simp [hpa]
                    clear hpa
                    go_upto_region 24 with (fail)
                    refine wp_region_obl 24 (fun ix vals v w1 => match ix with | 0 => v = .slice (some ⟨ga2, gao2, none⟩) nA cA | 1 => v = .int .i64 (n : Int) | 2 => v = .pointer (some ⟨ga2, gao2 + n * 6, none⟩) | 3 => v = .pointer (some ⟨ga2, gao2 + n * 6, none⟩) | 4 => v = .int .i64 pa | 5 => v = .slice (some ⟨gs, gso, none⟩) ms cHRS | 6 => v = .int .i64 (i : Int) | 7 => v = .pointer (some ⟨gs, gso + i * 21, none⟩) | 8 => v = .pointer (some ⟨gs, gso + i * 21, none⟩) | 9 => v = .int .i64 sid | 10 => v = .bool false | 11 => v = .bool false | 12 => v = undef | 13 => v = undef | 14 => v = undef | 15 => v = undef | 16 => v = undef | 17 => v = undef | 18 => v = undef | 19 => v = undef | 20 => v = undef | 21 => v = undef | 22 => v = undef | _ => v = .bool false) (by kernel_rfl) (by kernel_rfl) ?_ ?_ ?_ ?_
                    · intro ix vals v w1 w2 hi hr hx
                      match ix, hr with
                      | 0, hr => exact hr
                      | 1, hr => exact hr
                      | 2, hr => exact hr
                      | 3, hr => exact hr
                      | 4, hr => exact hr
                      | 5, hr => exact hr
                      | 6, hr => exact hr
                      | 7, hr => exact hr
                      | 8, hr => exact hr
                      | 9, hr => exact hr
                      | 10, hr => exact hr
                      | 11, hr => exact hr
                      | 12, hr => exact hr
                      | 13, hr => exact hr
                      | 14, hr => exact hr
                      | 15, hr => exact hr
                      | 16, hr => exact hr
                      | 17, hr => exact hr
                      | 18, hr => exact hr
                      | 19, hr => exact hr
                      | 20, hr => exact hr
                      | 21, hr => exact hr
                      | 22, hr => exact hr
                      | (kx + 23), hr => exact hr
                    · intro ix vals vals_ v w1 hi hv hr
                      exact hr
                    · refine obls_ofT [some 94, some 95, some 96, some 97, some 98, some 99, some 100, some 101, some 102, some 103, some 104, some 105, some 106, some 107, some 108, some 109, some 110, some 111, some 112, some 113, some 114, some 115, some 116, some 117] [(14, .slice (some ⟨ga2, gao2, none⟩) nA cA), (22, .int .i64 (n : Int)), (11, .slice (some ⟨gs, gso, none⟩) ms cHRS), (17, .int .i64 (i : Int)), (12, .slice (some ⟨gt, gto, none⟩) mt cHRT), (18, .int .i64 (k : Int))] 145 (by kernel_rfl) (by kernel_rfl) ⟨by kernel_rfl, by kernel_rfl, by kernel_rfl, by kernel_rfl, by kernel_rfl, by kernel_rfl, trivial⟩ ?_
                      refine ⟨?_, ?_, ?_, ?_, ?_, ?_, ?_, ?_, ?_, ?_, ?_, ?_, ?_, ?_, ?_, ?_, ?_, ?_, ?_, ?_, ?_, ?_, ?_, ?_, trivial⟩
                      · intro vals w1 hx hd
                        refine .run [(14, .slice (some ⟨ga2, gao2, none⟩) nA cA)] { dst := some 0, op := Go.Op.move (Go.Operand.const (.slice (some ⟨ga2, gao2, none⟩) nA cA)), type := 32, pos := "", after := #[], guard := none } 94 ⟨.out (by kernel_rfl) (by kernel_rfl), trivial⟩ (by kernel_rfl) (by kernel_rfl) (by kernel_rfl) rfl rfl rfl ?_
                        clear hd
                        go_wp2
                        exact ⟨rfl, Ext.refl _, rfl⟩
                      · intro vals w1 hx hd
                        refine .run [(22, .int .i64 (n : Int))] { dst := some 0, op := Go.Op.move (Go.Operand.const (.int .i64 (n : Int))), type := 3, pos := "", after := #[], guard := none } 95 ⟨.out (by kernel_rfl) (by kernel_rfl), trivial⟩ (by kernel_rfl) (by kernel_rfl) (by kernel_rfl) rfl rfl rfl ?_
                        clear hd
                        go_wp2
                        exact ⟨rfl, Ext.refl _, rfl⟩
                      · intro vals w1 hx hd
                        have e0 : vals 0 = .slice (some ⟨ga2, gao2, none⟩) nA cA := hd 0 (by decide)
                        have e1 : vals 1 = .int .i64 (n : Int) := hd 1 (by decide)
                        refine .run [(94, .slice (some ⟨ga2, gao2, none⟩) nA cA), (95, .int .i64 (n : Int))] { dst := some 0, op := Go.Op.indexAddr 32 (Go.Operand.const (.slice (some ⟨ga2, gao2, none⟩) nA cA)) (Go.Operand.const (.int .i64 (n : Int))), type := 0, pos := "", after := #[], guard := none } 96 ⟨.inn 0 (by kernel_rfl) e0, .inn 1 (by kernel_rfl) e1, trivial⟩ (by kernel_rfl) (by kernel_rfl) (by kernel_rfl) rfl rfl rfl ?_
                        clear hd e0 e1
                        go_wp2
                        exact ⟨rfl, Ext.refl _, rfl⟩
                      · intro vals w1 hx hd
                        have e2 : vals 2 = .pointer (some ⟨ga2, gao2 + n * 6, none⟩) := hd 2 (by decide)
                        refine .run [(96, .pointer (some ⟨ga2, gao2 + n * 6, none⟩))] { dst := some 0, op := Go.Op.fieldAddr 47 (Go.Operand.const (.pointer (some ⟨ga2, gao2 + n * 6, none⟩))) 0, type := 0, pos := "", after := #[], guard := none } 97 ⟨.inn 2 (by kernel_rfl) e2, trivial⟩ (by kernel_rfl) (by kernel_rfl) (by kernel_rfl) rfl rfl rfl ?_
                        clear hd e2
                        go_wp2
                        exact ⟨rfl, Ext.refl _, rfl⟩
                      · intro vals w1 hx hd
                        have e3 : vals 3 = .pointer (some ⟨ga2, gao2 + n * 6, none⟩) := hd 3 (by decide)
                        refine .run [(97, .pointer (some ⟨ga2, gao2 + n * 6, none⟩))] { dst := some 0, op := Go.Op.load 3 (Go.Operand.const (.pointer (some ⟨ga2, gao2 + n * 6, none⟩))), type := 3, pos := "", after := #[], guard := none } 98 ⟨.inn 3 (by kernel_rfl) e3, trivial⟩ (by kernel_rfl) (by kernel_rfl) (by kernel_rfl) rfl rfl rfl ?_
                        clear hd e3
                        have d0 := ext_cell hx d0
                        go_wp2
                        exact ⟨rfl, Ext.refl _, rfl⟩
                      · intro vals w1 hx hd
                        refine .run [(11, .slice (some ⟨gs, gso, none⟩) ms cHRS)] { dst := some 0, op := Go.Op.move (Go.Operand.const (.slice (some ⟨gs, gso, none⟩) ms cHRS)), type := 36, pos := "", after := #[], guard := none } 99 ⟨.out (by kernel_rfl) (by kernel_rfl), trivial⟩ (by kernel_rfl) (by kernel_rfl) (by kernel_rfl) rfl rfl rfl ?_
                        clear hd
                        go_wp2
                        exact ⟨rfl, Ext.refl _, rfl⟩
                      · intro vals w1 hx hd
                        refine .run [(17, .int .i64 (i : Int))] { dst := some 0, op := Go.Op.move (Go.Operand.const (.int .i64 (i : Int))), type := 3, pos := "", after := #[], guard := none } 100 ⟨.out (by kernel_rfl) (by kernel_rfl), trivial⟩ (by kernel_rfl) (by kernel_rfl) (by kernel_rfl) rfl rfl rfl ?_
                        clear hd
                        go_wp2
                        exact ⟨rfl, Ext.refl _, rfl⟩
                      · intro vals w1 hx hd
                        have e5 : vals 5 = .slice (some ⟨gs, gso, none⟩) ms cHRS := hd 5 (by decide)
                        have e6 : vals 6 = .int .i64 (i : Int) := hd 6 (by decide)
                        refine .run [(99, .slice (some ⟨gs, gso, none⟩) ms cHRS), (100, .int .i64 (i : Int))] { dst := some 0, op := Go.Op.indexAddr 36 (Go.Operand.const (.slice (some ⟨gs, gso, none⟩) ms cHRS)) (Go.Operand.const (.int .i64 (i : Int))), type := 0, pos := "", after := #[], guard := none } 101 ⟨.inn 5 (by kernel_rfl) e5, .inn 6 (by kernel_rfl) e6, trivial⟩ (by kernel_rfl) (by kernel_rfl) (by kernel_rfl) rfl rfl rfl ?_
                        clear hd e5 e6
                        go_wp2
                        exact ⟨rfl, Ext.refl _, rfl⟩
                      · intro vals w1 hx hd
                        have e7 : vals 7 = .pointer (some ⟨gs, gso + i * 21, none⟩) := hd 7 (by decide)
                        refine .run [(101, .pointer (some ⟨gs, gso + i * 21, none⟩))] { dst := some 0, op := Go.Op.fieldAddr 27 (Go.Operand.const (.pointer (some ⟨gs, gso + i * 21, none⟩))) 0, type := 0, pos := "", after := #[], guard := none } 102 ⟨.inn 7 (by kernel_rfl) e7, trivial⟩ (by kernel_rfl) (by kernel_rfl) (by kernel_rfl) rfl rfl rfl ?_
                        clear hd e7
                        go_wp2
                        exact ⟨rfl, Ext.refl _, rfl⟩
                      · intro vals w1 hx hd
                        have e8 : vals 8 = .pointer (some ⟨gs, gso + i * 21, none⟩) := hd 8 (by decide)
                        refine .run [(102, .pointer (some ⟨gs, gso + i * 21, none⟩))] { dst := some 0, op := Go.Op.load 3 (Go.Operand.const (.pointer (some ⟨gs, gso + i * 21, none⟩))), type := 3, pos := "", after := #[], guard := none } 103 ⟨.inn 8 (by kernel_rfl) e8, trivial⟩ (by kernel_rfl) (by kernel_rfl) (by kernel_rfl) rfl rfl rfl ?_
                        clear hd e8
                        have i0 := ext_cell hx i0
                        go_wp2
                        exact ⟨rfl, Ext.refl _, rfl⟩
                      · intro vals w1 hx hd
                        have e4 : vals 4 = .int .i64 pa := hd 4 (by decide)
                        have e9 : vals 9 = .int .i64 sid := hd 9 (by decide)
                        refine .run [(98, .int .i64 pa), (103, .int .i64 sid)] { dst := some 0, op := Go.Op.binOp Go.BinOp.eql 3 (Go.Operand.const (.int .i64 pa)) (Go.Operand.const (.int .i64 sid)) 3, type := 4, pos := "", after := #[], guard := none } 104 ⟨.inn 4 (by kernel_rfl) e4, .inn 9 (by kernel_rfl) e9, trivial⟩ (by kernel_rfl) (by kernel_rfl) (by kernel_rfl) rfl rfl rfl ?_
                        clear hd e4 e9
                        go_wp2
                        exact ⟨rfl, Ext.refl _, rfl⟩
                      · intro vals w1 hx hd
                        have e10 : vals 10 = .bool false := hd 10 (by decide)
                        refine .run [(104, .bool false)] { dst := some 0, op := Go.Op.move (Go.Operand.const (.bool false)), type := 4, pos := "", after := #[], guard := none } 105 ⟨.inn 10 (by kernel_rfl) e10, trivial⟩ (by kernel_rfl) (by kernel_rfl) (by kernel_rfl) rfl rfl rfl ?_
                        clear hd e10
                        go_wp2
                        exact ⟨rfl, Ext.refl _, rfl⟩
                      · intro vals w1 hx hd
                        have e11 : vals 11 = .bool false := hd 11 (by decide)
                        exact .no [(105, .bool false)] 106 ⟨.inn 11 (by kernel_rfl) e11, trivial⟩ (by kernel_rfl) rfl (by kernel_rfl) rfl
                      · intro vals w1 hx hd
                        have e11 : vals 11 = .bool false := hd 11 (by decide)
                        exact .no [(105, .bool false)] 107 ⟨.inn 11 (by kernel_rfl) e11, trivial⟩ (by kernel_rfl) rfl (by kernel_rfl) rfl
                      · intro vals w1 hx hd
                        have e11 : vals 11 = .bool false := hd 11 (by decide)
                        exact .no [(105, .bool false)] 108 ⟨.inn 11 (by kernel_rfl) e11, trivial⟩ (by kernel_rfl) rfl (by kernel_rfl) rfl
                      · intro vals w1 hx hd
                        have e11 : vals 11 = .bool false := hd 11 (by decide)
                        exact .no [(105, .bool false)] 109 ⟨.inn 11 (by kernel_rfl) e11, trivial⟩ (by kernel_rfl) rfl (by kernel_rfl) rfl
                      · intro vals w1 hx hd
                        have e11 : vals 11 = .bool false := hd 11 (by decide)
                        exact .no [(105, .bool false)] 110 ⟨.inn 11 (by kernel_rfl) e11, trivial⟩ (by kernel_rfl) rfl (by kernel_rfl) rfl
                      · intro vals w1 hx hd
                        have e11 : vals 11 = .bool false := hd 11 (by decide)
                        exact .no [(105, .bool false)] 111 ⟨.inn 11 (by kernel_rfl) e11, trivial⟩ (by kernel_rfl) rfl (by kernel_rfl) rfl
                      · intro vals w1 hx hd
                        have e11 : vals 11 = .bool false := hd 11 (by decide)
                        exact .no [(105, .bool false)] 112 ⟨.inn 11 (by kernel_rfl) e11, trivial⟩ (by kernel_rfl) rfl (by kernel_rfl) rfl
                      · intro vals w1 hx hd
                        have e11 : vals 11 = .bool false := hd 11 (by decide)
                        exact .no [(105, .bool false)] 113 ⟨.inn 11 (by kernel_rfl) e11, trivial⟩ (by kernel_rfl) rfl (by kernel_rfl) rfl
                      · intro vals w1 hx hd
                        have e11 : vals 11 = .bool false := hd 11 (by decide)
                        exact .no [(105, .bool false)] 114 ⟨.inn 11 (by kernel_rfl) e11, trivial⟩ (by kernel_rfl) rfl (by kernel_rfl) rfl
                      · intro vals w1 hx hd
                        have e11 : vals 11 = .bool false := hd 11 (by decide)
                        exact .no [(105, .bool false)] 115 ⟨.inn 11 (by kernel_rfl) e11, trivial⟩ (by kernel_rfl) rfl (by kernel_rfl) rfl
                      · intro vals w1 hx hd
                        have e11 : vals 11 = .bool false := hd 11 (by decide)
                        exact .no [(105, .bool false)] 116 ⟨.inn 11 (by kernel_rfl) e11, trivial⟩ (by kernel_rfl) rfl (by kernel_rfl) rfl
                      · intro vals w1 hx hd
                        have e11 : vals 11 = .bool false := hd 11 (by decide)
                        have e22 : vals 22 = undef := hd 22 (by decide)
                        refine .run [(105, .bool false), (116, undef)] { dst := some 0, op := Go.Op.pick (Go.Operand.const (.bool false)) (Go.Operand.const (undef)) (Go.Operand.const (Go.Value.bool false)), type := 4, pos := "", after := #[], guard := none } 117 ⟨.inn 11 (by kernel_rfl) e11, .inn 22 (by kernel_rfl) e22, trivial⟩ (by kernel_rfl) (by kernel_rfl) (by kernel_rfl) rfl rfl rfl ?_
                        clear hd e11 e22
                        go_wp2
                        exact ⟨rfl, Ext.refl _, rfl⟩
                    intro vals Wf hx9 hf
                    have e23 : vals 23 = .bool false := hf 23 (by omega)
                    clear hf d0 d1 i0 i1
                    have hx9 := hx9.undrew
                    have hz := Ext.trans hz hx9
                    have HO := Lib.hid (own_ext HO.out hx9)
                    clear hx9 qb
                    refine tail0 (by kernel_rfl) ?_
                    simp only [Lf, dstAt, Act.put, List.getElem?_toArray, List.getElem?_cons_zero, List.getElem?_cons_succ, Option.bind_some, List.setIfInBounds_toArray, List.set_cons_zero, List.set_cons_succ]
                    rw [e23]
                    clear e23
                    have HO2 : Hid (Wf.ownsRow We.heap.size 47 6 u21 ((AL.take (n + 1)).filter (ofPair sid yid)).length (((AL.take (n + 1)).filter (ofPair sid yid)).flatMap pasCells)) := Lib.hid (by rw [HST.out, HOP.out, hf1]; simpa using HO.out)
                    clear HO hf1
                    go_wp2
                    go_roundw
                    case rel => exact ⟨n + 1, by omega, by go_num, HO2, hz⟩
                    case measure => simp [intOf]; omega
                · skip
                  have hnn2 : n = nA := by omega
                  subst hnn2
                  have ho := HO.out
                  rw [List.take_of_length_le (by rw [← HNA.out]; exact Nat.le_refl _), HFIL.out, ← HNP.out] at ho
                  obtain ⟨A3, c3, hv3, _, _⟩ := own_slice ho
                  subst hv3
                  have HR3 := Lib.hid (RA.of_own (cells := pasCells) ho HNP.out.symm (by omega))
                  have HRP := Lib.hid ((HRP.out.below hz).more (Below.size hz))
                  have hsm := samePas_any QP A3 nP nP cP c3 PP PP wr HRP.out HR3.out
                  rw [decide_eq_true rfl] at hsm
                  have HSM := Lib.hid hsm
                  clear hsm ho HO HRP HR3
                  go_wp2_with (fail)
                  refine HSM.out.mono ?_
                  rintro e Wg ⟨rfl, hx9⟩
                  have hy := Ext.trans hy (Ext.trans hz hx9)
                  clear hz hx9 HSM
                  go_wp2
                  go_roundw
                  case rel => exact ⟨k + 1, by omega, by go_num, by rw [HCNX.out, Int.natCast_add], hck, hy⟩
                  case measure => simp [intOf]; omega
            · clear HCA
              go_wp2
              go_roundw
              case rel => exact ⟨k + 1, by omega, by go_num, by rw [HCNX.out, Int.natCast_add], hck, hy⟩
              case measure => simp [intOf]; omega
          · skip
            have hA64 : ¬ nA ≤ 64 := by omega
            rcases HCA.out with ⟨rfl, h1, _⟩ | ⟨rfl, h1⟩
            · exact absurd h1 hA64
            · clear HCA
              go_wp2
              go_ret
              exact ⟨rfl, Ext.trans hB (Ext.trans hx hy)⟩
        · skip
          have hkk : k = mt := by omega
          subst hkk
          have hcr : cntP SL TL ⟨a, b⟩ i k = cntP SL TL ⟨a, b⟩ (i + 1) 0 := by have := cnt_row (T := TL) (span := ⟨a, b⟩) (show i < SL.length by rw [← HMS.out]; exact hin); rw [← HMT.out] at this; exact this
          rw [hcr] at HCK ⊢
          have hck : Hid (cntP SL TL ⟨a, b⟩ (i + 1) 0 ≤ 192 * (i + 1)) := Lib.hid (by have := HCK.out; omega)
          clear hcr HCK
          generalize hcq : cntP SL TL ⟨a, b⟩ (i + 1) 0 = cq at hck
          have HCQ := Lib.hid hcq
          clear hcq
          have hx := Ext.trans hx hy
          go_wp2
          go_roundw
          case rel => exact ⟨i + 1, by omega, by go_num, by rw [HCQ.out], by rw [HCQ.out]; exact hck, hx⟩
          case measure => simp [intOf]; omega
    · skip
      have hii : i = ms := by omega
      subst hii
      have hca : cntP SL TL ⟨a, b⟩ i 0 = nA := by have := cnt_all (S := SL) (T := TL) (span := ⟨a, b⟩); rw [← HMS.out, HNA2.out] at this; exact this
      rw [hca]
      clear hca HCN
      rcases HCA.out with ⟨rfl, hA64, hownA⟩ | ⟨rfl, hA64⟩
      · skip
        clear HCA
        rw [← HNA.out] at hownA
        obtain ⟨QA, cA, hvA, _, _⟩ := own_slice hownA
        subst hvA
        have HRA := Lib.hid (RA.of_own (cells := pasCells) hownA HNA.out.symm (by omega))
        clear hownA
        have hpr := proper_any AL QA nA cA wr ((HRA.out.below hx).more (Below.size hx))
        have hpt : properP AL = true := by
          rw [HAL.out]
          refine all_proper (fun s hs => ?_) (fun y hy => ?_) ⟨q1a, ab1, by show b ≤ 1000001; omega⟩ (by rw [HNA2.out]; exact hA64)
          · obtain ⟨j, hj, rfl⟩ := List.mem_iff_getElem.1 hs; exact (HS.out j hj).1
          · obtain ⟨j, hj, rfl⟩ := List.mem_iff_getElem.1 hy; exact (HT.out j hj).1
        rw [hpt] at hpr
        have HPR := Lib.hid hpr
        clear hpr hpt
        go_wp2_with (fail)
        refine HPR.out.mono ?_
        rintro e Wg ⟨rfl, hx9⟩
        go_wp2
        go_ret
        exact ⟨rfl, Ext.trans hB (Ext.trans hx hx9)⟩
      · clear HCA
        have hA65 : 64 < (nA : Int) := by omega
        go_wp2
        go_ret
        exact ⟨rfl, Ext.trans hB hx⟩

end Go.Proofs.Ytlmpmhfbjblhnaa
