/- sane: the chapter's examples hold (printed by contact_d1.py). -/
import Derived.Test.YtlmpmhfbjblhnaaD0
import Derived.Test.YtlmpmhfbjblhnaaTn2
namespace Go.Proofs.Ytlmpmhfbjblhnaa
open Go.RowKit

/-- A call answers true, and keeps what was. -/
def Tru (w : World) (e : Ending) (w' : World) : Prop := e = .returned (.bool true) ∧ Ext w w'
theorem wpList_buildOneG {P : Program} {ops : Array Oper} {rest : List Oper} {o : Oper} {a : Act} {w : World} {Q : Exit → Act → World → Prop} (hw : Region.wanted o (yielded ops a.tmps) = true) (t e : TypeId) (x : Operand) (ho : o.op = .buildSlice t 1 #[(0, x)])
    (X : Array Value) (hx : a.eval x = .agg X) (hu : P.underlying t = some (.slice e)) (s : Nat) (hi : (P.info? e).map (fun i => (i.zero.map (fun z => z.cells.size), i.size)) = some (some s, s)) (hs : X.size = s) (h0 : 0 < s) (hsm : s ≤ 2 ^ 24)
    (h : wpList P ops Q rest (a.put o.dst (.slice (some ⟨w.heap.size, 0, none⟩) 1 1)) (w.alloc (.cells X e))) : wpList P ops Q (o :: rest) a w := by
  cases hie : P.info? e with
  | none => simp [hie] at hi
  | some ie =>
    cases hz : ie.zero with
    | none => simp [hie, hz] at hi
    | some z =>
      simp only [hie, hz, Option.map_some, Option.some.injEq, Prod.mk.injEq] at hi
      obtain ⟨hzs, his⟩ := hi
      unfold wpList
      rw [if_pos hw]
      refine .inl (wp_buildSlice t e 1 _ ho X ie z hu hie hz (by omega) (by omega) ?_ h)
      have hf := Great.fill_whole (s := s) h0 [.agg X] ((Array.range (1 * ie.size)).map (z.cells[· % z.cells.size]!)) (by intro v hv; obtain rfl := List.mem_singleton.1 hv; exact hs) (by simp [his])
      simp [hx, his] at hf ⊢
      exact hf
theorem wpList_buildTwoG {P : Program} {ops : Array Oper} {rest : List Oper} {o : Oper} {a : Act} {w : World} {Q : Exit → Act → World → Prop} (hw : Region.wanted o (yielded ops a.tmps) = true) (t e : TypeId) (x y : Operand) (ho : o.op = .buildSlice t 2 #[(0, x), (1, y)])
    (X Y : Array Value) (hx : a.eval x = .agg X) (hy : a.eval y = .agg Y) (hu : P.underlying t = some (.slice e)) (s : Nat) (hi : (P.info? e).map (fun i => (i.zero.map (fun z => z.cells.size), i.size)) = some (some s, s)) (hs : X.size = s) (hs2 : Y.size = s) (h0 : 0 < s) (hsm : s ≤ 2 ^ 20)
    (h : wpList P ops Q rest (a.put o.dst (.slice (some ⟨w.heap.size, 0, none⟩) 2 2)) (w.alloc (.cells (X.toList ++ Y.toList).toArray e))) : wpList P ops Q (o :: rest) a w := by
  cases hie : P.info? e with
  | none => simp [hie] at hi
  | some ie =>
    cases hz : ie.zero with
    | none => simp [hie, hz] at hi
    | some z =>
      simp only [hie, hz, Option.map_some, Option.some.injEq, Prod.mk.injEq] at hi
      obtain ⟨hzs, his⟩ := hi
      unfold wpList
      rw [if_pos hw]
      refine .inl (wp_buildSlice t e 2 _ ho _ ie z hu hie hz (by omega) (by omega) ?_ h)
      have hf := Great.fill_whole (s := s) h0 [.agg X, .agg Y] ((Array.range (2 * ie.size)).map (z.cells[· % z.cells.size]!)) (by intro v hv; rcases List.mem_cons.1 hv with rfl | hv; exact hs; obtain rfl := List.mem_singleton.1 hv; exact hs2) (by simp [his])
      simp [hx, hy, his] at hf ⊢
      exact hf
theorem two_vars (W : World) (X T : Array Value) : Ext W ((((W.alloc (.cells #[.int .i64 0, .int .i64 0, .int .i64 0, .int .i64 0, .int .i64 0, .int .i64 0, .int .i64 0, .int .i64 0, .int .i64 0, .int .i64 0, .int .i64 0, .int .i64 0, .int .i64 0, .int .i64 0, .int .i64 0, .int .i64 0, .int .i64 0, .int .i64 0, .int .i64 0, .int .i64 0, .int .i64 0] 27)).alloc (.cells #[.int .i64 0, .int .i64 0, .int .i64 0, .int .i64 0, .int .i64 0, .int .i64 0] 31)).setRow W.heap.size X).setRow (W.heap.size + 1) T) ∧
    Blk ((((W.alloc (.cells #[.int .i64 0, .int .i64 0, .int .i64 0, .int .i64 0, .int .i64 0, .int .i64 0, .int .i64 0, .int .i64 0, .int .i64 0, .int .i64 0, .int .i64 0, .int .i64 0, .int .i64 0, .int .i64 0, .int .i64 0, .int .i64 0, .int .i64 0, .int .i64 0, .int .i64 0, .int .i64 0, .int .i64 0] 27)).alloc (.cells #[.int .i64 0, .int .i64 0, .int .i64 0, .int .i64 0, .int .i64 0, .int .i64 0] 31)).setRow W.heap.size X).setRow (W.heap.size + 1) T) W.heap.size 27 X ∧ Blk ((((W.alloc (.cells #[.int .i64 0, .int .i64 0, .int .i64 0, .int .i64 0, .int .i64 0, .int .i64 0, .int .i64 0, .int .i64 0, .int .i64 0, .int .i64 0, .int .i64 0, .int .i64 0, .int .i64 0, .int .i64 0, .int .i64 0, .int .i64 0, .int .i64 0, .int .i64 0, .int .i64 0, .int .i64 0, .int .i64 0] 27)).alloc (.cells #[.int .i64 0, .int .i64 0, .int .i64 0, .int .i64 0, .int .i64 0, .int .i64 0] 31)).setRow W.heap.size X).setRow (W.heap.size + 1) T) (W.heap.size + 1) 31 T :=
  ⟨below_setRow (below_setRow (bl_alloc (bl_alloc (Below.refl _ _) _) _) (Nat.le_refl _) _) (Nat.le_succ _) _, (((Blk.new W _ _).alloc _).row X).rowFar (by omega) T, ((Blk.new_at (W.alloc _) _ _ (by simp)).rowFar (by omega) X).row T⟩
theorem passes_ex (k : Int) (l : List Pas) (hev : passesP [exSat k] [exStn] exSp = some l) (hn : (allP [exSat k] [exStn] exSp).length = 2) (w : World) (g1 g2 : Nat) (J1 : Blk w g1 27 (satCells (exSat k)).toArray) (J2 : Blk w g2 31 (stnCells exStn).toArray) :
    Calls Try.prog 31 #[.slice (some ⟨g1, 0, none⟩) 1 1, .slice (some ⟨g2, 0, none⟩) 1 1, .agg #[.int .i64 0, .int .i64 96]] w (PassesRet (some l) w) := by
  have h := callsIn_wide.1 (Passes_in 19 sortC_small [exSat k] [exStn] (some ⟨g1, 0, none⟩) (some ⟨g2, 0, none⟩) 1 1 1 1 0 96 w (RA.one rfl J1) (RA.one rfl J2) (fun _ => by
    show (allP [exSat k] [exStn] exSp).length ≤ 19
    rw [hn]; omega))
  rw [show passesP [exSat k] [exStn] ⟨0, 96⟩ = some l from hev] at h
  exact h
set_option maxHeartbeats 8000000 in
set_option maxRecDepth 100000 in
theorem sane_any (w : World) : Calls Try.prog 10 #[] w (Tru w) := by
  obtain ⟨X0, hX0⟩ : ∃ X, X = (satCells (exSat 0)).toArray := ⟨_, rfl⟩
  obtain ⟨X1, hX1⟩ : ∃ X, X = (satCells (exSat 1)).toArray := ⟨_, rfl⟩
  obtain ⟨X3, hX3⟩ : ∃ X, X = (satCells (exSat 3)).toArray := ⟨_, rfl⟩
  obtain ⟨TX, hTX⟩ : ∃ X, X = (stnCells exStn).toArray := ⟨_, rfl⟩
  have HO0 : Hid (X0.all (·.oneCell') = true) := Lib.hid (by rw [hX0]; exact sat_one _)
  have HZ0 : Hid (X0.size = 21) := Lib.hid (by rw [hX0]; rfl)
  have HO1 : Hid (X1.all (·.oneCell') = true) := Lib.hid (by rw [hX1]; exact sat_one _)
  have HZ1 : Hid (X1.size = 21) := Lib.hid (by rw [hX1]; rfl)
  have HO3 : Hid (X3.all (·.oneCell') = true) := Lib.hid (by rw [hX3]; exact sat_one _)
  have HZ3 : Hid (X3.size = 21) := Lib.hid (by rw [hX3]; rfl)
  have HOT : Hid (TX.all (·.oneCell') = true) := Lib.hid (by rw [hTX]; exact stn_one _)
  have HZT : Hid (TX.size = 6) := Lib.hid (by rw [hTX]; rfl)
  have HE0 : Hid (∀ w, Calls Try.prog 37 #[.int .i64 0] w fun e w' => e = .returned (.tuple #[.agg X0, .agg TX]) ∧ Below w.heap.size w w') := Lib.hid (by rw [hX0, hTX]; exact example_any 0)
  have HE1 : Hid (∀ w, Calls Try.prog 37 #[.int .i64 1] w fun e w' => e = .returned (.tuple #[.agg X1, .agg TX]) ∧ Below w.heap.size w w') := Lib.hid (by rw [hX1, hTX]; exact example_any 1)
  have HE3 : Hid (∀ w, Calls Try.prog 37 #[.int .i64 3] w fun e w' => e = .returned (.tuple #[.agg X3, .agg TX]) ∧ Below w.heap.size w w') := Lib.hid (by rw [hX3, hTX]; exact example_any 3)
  have HC0 : Hid (∀ w, Calls Try.prog 28 #[.agg #[.int .i64 96, .int .i64 0, .int .i64 4000, .int .i64 20000, .int .i64 0, .int .i64 0, .int .i64 3], .agg #[.int .i64 2, .int .i64 0, .int .i64 12, .int .i64 0, .int .i64 1, .int .i64 0], .agg #[.int .i64 0, .int .i64 96], .int .i64 0] w (SpellsRet (some ex0) w)) := Lib.hid (fun w => by
    have h := callsIn_wide.1 (Contacts_in 96 0 4000 20000 0 0 3 2 0 12 0 1 0 0 96 0 w)
    rw [show contactsP ⟨96, 0, 4000, 20000, 0, 0, 3⟩ ⟨2, ⟨0, 12⟩, 0, 1, 0⟩ ⟨0, 96⟩ 0 = (some ex0) from ev_c0] at h
    exact h)
  have HC2 : Hid (∀ w, Calls Try.prog 28 #[.agg #[.int .i64 96, .int .i64 0, .int .i64 4000, .int .i64 20000, .int .i64 0, .int .i64 0, .int .i64 3], .agg #[.int .i64 2, .int .i64 0, .int .i64 12, .int .i64 0, .int .i64 1, .int .i64 0], .agg #[.int .i64 0, .int .i64 96], .int .i64 2] w (SpellsRet (some ex2) w)) := Lib.hid (fun w => by
    have h := callsIn_wide.1 (Contacts_in 96 0 4000 20000 0 0 3 2 0 12 0 1 0 0 96 2 w)
    rw [show contactsP ⟨96, 0, 4000, 20000, 0, 0, 3⟩ ⟨2, ⟨0, 12⟩, 0, 1, 0⟩ ⟨0, 96⟩ 2 = (some ex2) from ev_c2] at h
    exact h)
  have HC4 : Hid (∀ w, Calls Try.prog 28 #[.agg #[.int .i64 96, .int .i64 0, .int .i64 4000, .int .i64 20000, .int .i64 0, .int .i64 0, .int .i64 3], .agg #[.int .i64 2, .int .i64 0, .int .i64 12, .int .i64 0, .int .i64 1, .int .i64 0], .agg #[.int .i64 0, .int .i64 96], .int .i64 4] w (SpellsRet none w)) := Lib.hid (fun w => by
    have h := callsIn_wide.1 (Contacts_in 96 0 4000 20000 0 0 3 2 0 12 0 1 0 0 96 4 w)
    rw [show contactsP ⟨96, 0, 4000, 20000, 0, 0, 3⟩ ⟨2, ⟨0, 12⟩, 0, 1, 0⟩ ⟨0, 96⟩ 4 = none from ev_c4] at h
    exact h)
  have HV26 : Hid (∀ w, Calls Try.prog 26 #[.agg #[.int .i64 96, .int .i64 0, .int .i64 4000, .int .i64 20000, .int .i64 0, .int .i64 0, .int .i64 0], .agg #[.int .i64 2, .int .i64 0, .int .i64 12, .int .i64 0, .int .i64 1, .int .i64 0], .int .i64 26, .int .i64 0] w fun e w' => e = .returned (.tuple #[.bool true, .int .i64 0]) ∧ Below w.heap.size w w') := Lib.hid (fun w => by
    have h := View_any 96 0 4000 20000 0 0 0 2 0 12 0 1 0 26 0 w
    rw [show viewP ⟨96, 0, 4000, 20000, 0, 0, 0⟩ ⟨2, ⟨0, 12⟩, 0, 1, 0⟩ 26 0 = some true from ev_v26] at h
    exact h)
  have HV27 : Hid (∀ w, Calls Try.prog 26 #[.agg #[.int .i64 96, .int .i64 0, .int .i64 4000, .int .i64 20000, .int .i64 0, .int .i64 0, .int .i64 0], .agg #[.int .i64 2, .int .i64 0, .int .i64 12, .int .i64 0, .int .i64 1, .int .i64 0], .int .i64 27, .int .i64 0] w fun e w' => e = .returned (.tuple #[.bool false, .int .i64 0]) ∧ Below w.heap.size w w') := Lib.hid (fun w => by
    have h := View_any 96 0 4000 20000 0 0 0 2 0 12 0 1 0 27 0 w
    rw [show viewP ⟨96, 0, 4000, 20000, 0, 0, 0⟩ ⟨2, ⟨0, 12⟩, 0, 1, 0⟩ 27 0 = some false from ev_v27] at h
    exact h)
  have HP0 : Hid (∀ (w : World) (g1 g2 : Nat), Blk w g1 27 X0 → Blk w g2 31 TX → Calls Try.prog 31 #[.slice (some ⟨g1, 0, none⟩) 1 1, .slice (some ⟨g2, 0, none⟩) 1 1, .agg #[.int .i64 0, .int .i64 96]] w (PassesRet (some exA) w)) := Lib.hid (by rw [hX0, hTX]; exact fun w g1 g2 J1 J2 => passes_ex 0 exA ev_p0 ev_n0 w g1 g2 J1 J2)
  have HP1 : Hid (∀ (w : World) (g1 g2 : Nat), Blk w g1 27 X1 → Blk w g2 31 TX → Calls Try.prog 31 #[.slice (some ⟨g1, 0, none⟩) 1 1, .slice (some ⟨g2, 0, none⟩) 1 1, .agg #[.int .i64 0, .int .i64 96]] w (PassesRet (some exB) w)) := Lib.hid (by rw [hX1, hTX]; exact fun w g1 g2 J1 J2 => passes_ex 1 exB ev_p1 ev_n1 w g1 g2 J1 J2)
  have HP3 : Hid (∀ (w : World) (g1 g2 : Nat), Blk w g1 27 X3 → Blk w g2 31 TX → Calls Try.prog 31 #[.slice (some ⟨g1, 0, none⟩) 1 1, .slice (some ⟨g2, 0, none⟩) 1 1, .agg #[.int .i64 0, .int .i64 96]] w (PassesRet (some exC) w)) := Lib.hid (by rw [hX3, hTX]; exact fun w g1 g2 J1 J2 => passes_ex 3 exC ev_p3 ev_n3 w g1 g2 J1 J2)
  have HN0 : Hid (∀ w, Calls Try.prog 22 #[.agg X0, .agg #[.int .i64 1, .int .i64 2, .int .i64 24, .int .i64 27, .int .i64 24, .int .i64 27]] w fun e w' => e = .returned (.int .i64 15) ∧ Below w.heap.size w w') := Lib.hid (fun w => by
    have h := sendable_any 1 0 96 0 4000 20000 0 0 0 0 1 1 0 0 0 0 0 0 1 0 5 1 2 24 27 24 27 w
    rw [show sendP ⟨1, 0, ⟨96, 0, 4000, 20000, 0, 0, 0⟩, 0, 1, 1, 0, 0, 0, 0, 0, 0, 1, 0, 5⟩ ⟨1, 2, ⟨24, 27⟩, ⟨24, 27⟩⟩ = 15 from ev_s0] at h
    rw [hX0]
    exact h)
  have HN3 : Hid (∀ w, Calls Try.prog 22 #[.agg X3, .agg #[.int .i64 1, .int .i64 2, .int .i64 0, .int .i64 0, .int .i64 21, .int .i64 30]] w fun e w' => e = .returned (.int .i64 0) ∧ Below w.heap.size w w') := Lib.hid (fun w => by
    have h := sendable_any 1 0 96 0 4000 20000 0 0 3 0 1 1 0 0 0 0 0 0 1 0 5 1 2 0 0 21 30 w
    rw [show sendP ⟨1, 0, ⟨96, 0, 4000, 20000, 0, 0, 3⟩, 0, 1, 1, 0, 0, 0, 0, 0, 0, 1, 0, 5⟩ ⟨1, 2, ⟨0, 0⟩, ⟨21, 30⟩⟩ = 0 from ev_s3] at h
    rw [hX3]
    exact h)
  have HVS : Hid (∀ w, Calls Try.prog 20 #[.agg X1] w fun e w' => e = .returned (.bool true) ∧ Below w.heap.size w w') := Lib.hid (fun w => by
    have h := satVal (exSat 1) w
    rw [ev_sat1] at h
    rw [hX1]
    exact h)
  have HVZ : Hid (∀ w, Calls Try.prog 20 #[.agg #[.int .i64 0, .int .i64 0, .int .i64 0, .int .i64 0, .int .i64 0, .int .i64 0, .int .i64 0, .int .i64 0, .int .i64 0, .int .i64 0, .int .i64 0, .int .i64 0, .int .i64 0, .int .i64 0, .int .i64 0, .int .i64 0, .int .i64 0, .int .i64 0, .int .i64 0, .int .i64 0, .int .i64 0]] w fun e w' => e = .returned (.bool false) ∧ Below w.heap.size w w') := Lib.hid (fun w => by
    have h := satVal zSat w
    rw [ev_satz] at h
    exact h)
  have HVT : Hid (∀ w, Calls Try.prog 24 #[.agg #[.int .i64 2, .int .i64 0, .int .i64 12, .int .i64 0, .int .i64 1, .int .i64 0]] w fun e w' => e = .returned (.bool true) ∧ Below w.heap.size w w') := Lib.hid (fun w => by
    have h := station_valid 2 0 12 0 1 0 w
    rw [show stnOK ⟨2, ⟨0, 12⟩, 0, 1, 0⟩ = true from ev_stn] at h
    exact h)
  have HVU : Hid (∀ w, Calls Try.prog 24 #[.agg #[.int .i64 0, .int .i64 0, .int .i64 0, .int .i64 0, .int .i64 0, .int .i64 0]] w fun e w' => e = .returned (.bool false) ∧ Below w.heap.size w w') := Lib.hid (fun w => by
    have h := station_valid 0 0 0 0 0 0 w
    rw [show stnOK ⟨0, ⟨0, 0⟩, 0, 0, 0⟩ = false from ev_stnz] at h
    exact h)
  have HX0 := Lib.hid hX0
  have HX1 := Lib.hid hX1
  have HX3 := Lib.hid hX3
  have HTX := Lib.hid hTX
  clear hX0 hX1 hX3 hTX
  go_enter Try.func10, Try.ntmps10
  go_wp2_with fail
  obtain ⟨g1, hg1⟩ : ∃ g, g = w.heap.size := ⟨_, rfl⟩
  have J1 : Blk (w.alloc (.cells #[.int .i64 0, .int .i64 96] 34)) g1 34 #[.int .i64 0, .int .i64 96] := Blk.new_at _ _ _ hg1.symm
  have hB : Below w.heap.size w (w.alloc (.cells #[.int .i64 0, .int .i64 96] 34)) := bl_alloc (Below.refl _ _) _
  rw [← hg1]
  generalize w.alloc (.cells #[.int .i64 0, .int .i64 96] 34) = W0 at J1 hB ⊢
  clear hg1
  refine (HE3.out _).mono ?_
  rintro e W1 ⟨rfl, hx⟩
  have J1 := J1.ext hx
  have hB := bl_then hB hx
  clear hx
  go_upto_region 3 with (first | (refine wpList_store_row rfl 27 _ _ rfl W1.heap.size X3 rfl rfl 27 _ ((Blk.new W1 27 #[.int .i64 0, .int .i64 0, .int .i64 0, .int .i64 0, .int .i64 0, .int .i64 0, .int .i64 0, .int .i64 0, .int .i64 0, .int .i64 0, .int .i64 0, .int .i64 0, .int .i64 0, .int .i64 0, .int .i64 0, .int .i64 0, .int .i64 0, .int .i64 0, .int .i64 0, .int .i64 0, .int .i64 0]).alloc _) (by rw [HZ3.out]; exact sat_size) (by rw [HZ3.out]; rfl) HO3.out ?_) | (refine wpList_store_row rfl 31 _ _ rfl (W1.heap.size + 1) TX rfl rfl 31 _ ((Blk.new_at (W1.alloc (.cells #[.int .i64 0, .int .i64 0, .int .i64 0, .int .i64 0, .int .i64 0, .int .i64 0, .int .i64 0, .int .i64 0, .int .i64 0, .int .i64 0, .int .i64 0, .int .i64 0, .int .i64 0, .int .i64 0, .int .i64 0, .int .i64 0, .int .i64 0, .int .i64 0, .int .i64 0, .int .i64 0, .int .i64 0] 27)) 31 #[.int .i64 0, .int .i64 0, .int .i64 0, .int .i64 0, .int .i64 0, .int .i64 0] (by simp)).rowFar (by omega) X3) (by rw [HZT.out]; exact stn_size) (by rw [HZT.out]; rfl) HOT.out ?_))
  obtain ⟨hx, J2, J3⟩ := two_vars W1 X3 TX
  obtain ⟨g2, hg⟩ : ∃ g, g = W1.heap.size := ⟨_, rfl⟩
  obtain ⟨g3, hg2⟩ : ∃ g, g = W1.heap.size + 1 := ⟨_, rfl⟩
  rw [← hg2] at hx J2 J3 ⊢
  rw [← hg] at hx J2 J3 ⊢
  generalize ((((W1.alloc (.cells #[.int .i64 0, .int .i64 0, .int .i64 0, .int .i64 0, .int .i64 0, .int .i64 0, .int .i64 0, .int .i64 0, .int .i64 0, .int .i64 0, .int .i64 0, .int .i64 0, .int .i64 0, .int .i64 0, .int .i64 0, .int .i64 0, .int .i64 0, .int .i64 0, .int .i64 0, .int .i64 0, .int .i64 0] 27)).alloc (.cells #[.int .i64 0, .int .i64 0, .int .i64 0, .int .i64 0, .int .i64 0, .int .i64 0] 31)).setRow g2 X3).setRow g3 TX) = W2 at hx J2 J3 ⊢
  clear hg hg2
  have J1 := J1.ext hx
  have hB := bl_then hB hx
  clear hx
  have o2 : W2.cell? ⟨g2, 2, none⟩ = some (.int .i64 96) := (J2.cell 2).trans (by rw [HX3.out]; rfl)
  have o3 : W2.cell? ⟨g2, 3, none⟩ = some (.int .i64 0) := (J2.cell 3).trans (by rw [HX3.out]; rfl)
  have o4 : W2.cell? ⟨g2, 4, none⟩ = some (.int .i64 4000) := (J2.cell 4).trans (by rw [HX3.out]; rfl)
  have o5 : W2.cell? ⟨g2, 5, none⟩ = some (.int .i64 20000) := (J2.cell 5).trans (by rw [HX3.out]; rfl)
  have o6 : W2.cell? ⟨g2, 6, none⟩ = some (.int .i64 0) := (J2.cell 6).trans (by rw [HX3.out]; rfl)
  have o7 : W2.cell? ⟨g2, 7, none⟩ = some (.int .i64 0) := (J2.cell 7).trans (by rw [HX3.out]; rfl)
  have o8 : W2.cell? ⟨g2, 8, none⟩ = some (.int .i64 3) := (J2.cell 8).trans (by rw [HX3.out]; rfl)
  have s0 : W2.cell? ⟨g3, 0, none⟩ = some (.int .i64 2) := (J3.cell 0).trans (by rw [HTX.out]; rfl)
  have s1 : W2.cell? ⟨g3, 1, none⟩ = some (.int .i64 0) := (J3.cell 1).trans (by rw [HTX.out]; rfl)
  have s2 : W2.cell? ⟨g3, 2, none⟩ = some (.int .i64 12) := (J3.cell 2).trans (by rw [HTX.out]; rfl)
  have s3 : W2.cell? ⟨g3, 3, none⟩ = some (.int .i64 0) := (J3.cell 3).trans (by rw [HTX.out]; rfl)
  have s4 : W2.cell? ⟨g3, 4, none⟩ = some (.int .i64 1) := (J3.cell 4).trans (by rw [HTX.out]; rfl)
  have s5 : W2.cell? ⟨g3, 5, none⟩ = some (.int .i64 0) := (J3.cell 5).trans (by rw [HTX.out]; rfl)
  have p0 : W2.cell? ⟨g1, 0, none⟩ = some (.int .i64 0) := J1.cell 0
  have p1 : W2.cell? ⟨g1, 1, none⟩ = some (.int .i64 96) := J1.cell 1
  go_wp2_with fail
  refine (HC0.out _).mono ?_
  rintro e W3 ⟨vRa, rfl, hown, hx⟩
  clear o2 o3 o4 o5 o6 o7 o8 s0 s1 s2 s3 s4 s5 p0 p1
  have J1 := J1.ext hx
  have hB := bl_then hB hx
  have J2 := J2.ext hx
  have J3 := J3.ext hx
  clear hx
  have Ra : W3.ownsRow 0 34 2 vRa 2 (ex0.flatMap splCells) := own_base hown (Nat.zero_le _)
  obtain ⟨gRa, cRa, hv, _, _⟩ := World.ownsRow.form Ra (by omega)
  subst hv
  clear hown
  have o2 : W3.cell? ⟨g2, 2, none⟩ = some (.int .i64 96) := (J2.cell 2).trans (by rw [HX3.out]; rfl)
  have o3 : W3.cell? ⟨g2, 3, none⟩ = some (.int .i64 0) := (J2.cell 3).trans (by rw [HX3.out]; rfl)
  have o4 : W3.cell? ⟨g2, 4, none⟩ = some (.int .i64 4000) := (J2.cell 4).trans (by rw [HX3.out]; rfl)
  have o5 : W3.cell? ⟨g2, 5, none⟩ = some (.int .i64 20000) := (J2.cell 5).trans (by rw [HX3.out]; rfl)
  have o6 : W3.cell? ⟨g2, 6, none⟩ = some (.int .i64 0) := (J2.cell 6).trans (by rw [HX3.out]; rfl)
  have o7 : W3.cell? ⟨g2, 7, none⟩ = some (.int .i64 0) := (J2.cell 7).trans (by rw [HX3.out]; rfl)
  have o8 : W3.cell? ⟨g2, 8, none⟩ = some (.int .i64 3) := (J2.cell 8).trans (by rw [HX3.out]; rfl)
  have s0 : W3.cell? ⟨g3, 0, none⟩ = some (.int .i64 2) := (J3.cell 0).trans (by rw [HTX.out]; rfl)
  have s1 : W3.cell? ⟨g3, 1, none⟩ = some (.int .i64 0) := (J3.cell 1).trans (by rw [HTX.out]; rfl)
  have s2 : W3.cell? ⟨g3, 2, none⟩ = some (.int .i64 12) := (J3.cell 2).trans (by rw [HTX.out]; rfl)
  have s3 : W3.cell? ⟨g3, 3, none⟩ = some (.int .i64 0) := (J3.cell 3).trans (by rw [HTX.out]; rfl)
  have s4 : W3.cell? ⟨g3, 4, none⟩ = some (.int .i64 1) := (J3.cell 4).trans (by rw [HTX.out]; rfl)
  have s5 : W3.cell? ⟨g3, 5, none⟩ = some (.int .i64 0) := (J3.cell 5).trans (by rw [HTX.out]; rfl)
  have p0 : W3.cell? ⟨g1, 0, none⟩ = some (.int .i64 0) := J1.cell 0
  have p1 : W3.cell? ⟨g1, 1, none⟩ = some (.int .i64 96) := J1.cell 1
  go_wp2_with fail
  refine (HC2.out _).mono ?_
  rintro e W4 ⟨vRb, rfl, hown, hx⟩
  clear o2 o3 o4 o5 o6 o7 o8 s0 s1 s2 s3 s4 s5 p0 p1
  have J1 := J1.ext hx
  have hB := bl_then hB hx
  have J2 := J2.ext hx
  have J3 := J3.ext hx
  have Ra := own_ext Ra hx
  clear hx
  have Rb : W4.ownsRow 0 34 2 vRb 2 (ex2.flatMap splCells) := own_base hown (Nat.zero_le _)
  obtain ⟨gRb, cRb, hv, _, _⟩ := World.ownsRow.form Rb (by omega)
  subst hv
  clear hown
  have o2 : W4.cell? ⟨g2, 2, none⟩ = some (.int .i64 96) := (J2.cell 2).trans (by rw [HX3.out]; rfl)
  have o3 : W4.cell? ⟨g2, 3, none⟩ = some (.int .i64 0) := (J2.cell 3).trans (by rw [HX3.out]; rfl)
  have o4 : W4.cell? ⟨g2, 4, none⟩ = some (.int .i64 4000) := (J2.cell 4).trans (by rw [HX3.out]; rfl)
  have o5 : W4.cell? ⟨g2, 5, none⟩ = some (.int .i64 20000) := (J2.cell 5).trans (by rw [HX3.out]; rfl)
  have o6 : W4.cell? ⟨g2, 6, none⟩ = some (.int .i64 0) := (J2.cell 6).trans (by rw [HX3.out]; rfl)
  have o7 : W4.cell? ⟨g2, 7, none⟩ = some (.int .i64 0) := (J2.cell 7).trans (by rw [HX3.out]; rfl)
  have o8 : W4.cell? ⟨g2, 8, none⟩ = some (.int .i64 3) := (J2.cell 8).trans (by rw [HX3.out]; rfl)
  have s0 : W4.cell? ⟨g3, 0, none⟩ = some (.int .i64 2) := (J3.cell 0).trans (by rw [HTX.out]; rfl)
  have s1 : W4.cell? ⟨g3, 1, none⟩ = some (.int .i64 0) := (J3.cell 1).trans (by rw [HTX.out]; rfl)
  have s2 : W4.cell? ⟨g3, 2, none⟩ = some (.int .i64 12) := (J3.cell 2).trans (by rw [HTX.out]; rfl)
  have s3 : W4.cell? ⟨g3, 3, none⟩ = some (.int .i64 0) := (J3.cell 3).trans (by rw [HTX.out]; rfl)
  have s4 : W4.cell? ⟨g3, 4, none⟩ = some (.int .i64 1) := (J3.cell 4).trans (by rw [HTX.out]; rfl)
  have s5 : W4.cell? ⟨g3, 5, none⟩ = some (.int .i64 0) := (J3.cell 5).trans (by rw [HTX.out]; rfl)
  have p0 : W4.cell? ⟨g1, 0, none⟩ = some (.int .i64 0) := J1.cell 0
  have p1 : W4.cell? ⟨g1, 1, none⟩ = some (.int .i64 96) := J1.cell 1
  go_wp2_with fail
  refine (HC4.out _).mono ?_
  rintro e W5 ⟨rfl, hx⟩
  clear o2 o3 o4 o5 o6 o7 o8 s0 s1 s2 s3 s4 s5 p0 p1
  have J1 := J1.ext hx
  have hB := bl_then hB hx
  have J2 := J2.ext hx
  have J3 := J3.ext hx
  have Ra := own_ext Ra hx
  have Rb := own_ext Rb hx
  clear hx
  go_wp2_with fail
  have hx : Ext W5 (W5.alloc (.cells #[.int .i64 24, .int .i64 27, .int .i64 70, .int .i64 73] 34)) := bl_alloc (Below.refl _ _) _
  have JL : Blk (W5.alloc (.cells #[.int .i64 24, .int .i64 27, .int .i64 70, .int .i64 73] 34)) W5.heap.size 34 #[.int .i64 24, .int .i64 27, .int .i64 70, .int .i64 73] := Blk.new _ _ _
  have J1 := J1.ext hx
  have hB := bl_then hB hx
  have J2 := J2.ext hx
  have J3 := J3.ext hx
  have Ra := own_ext Ra hx
  have Rb := own_ext Rb hx
  clear hx
  have hsm := sameSpl_any (some ⟨gRa, 0, none⟩) (some ⟨W5.heap.size, 0, none⟩) 2 2 cRa 2 ex0 ex0 _ (RA.of_own Ra rfl (by omega)) (RA.two (cells := splCells) (x := ⟨24, 27⟩) (y := ⟨70, 73⟩) rfl rfl JL)
  rw [decide_eq_true rfl] at hsm
  refine hsm.mono ?_
  rintro e W7 ⟨rfl, hx⟩
  have J1 := J1.ext hx
  have hB := bl_then hB hx
  have J2 := J2.ext hx
  have J3 := J3.ext hx
  have Ra := own_ext Ra hx
  have Rb := own_ext Rb hx
  clear hx JL hsm
  go_wp2_with fail
  have hx : Ext W7 (W7.alloc (.cells #[.int .i64 26, .int .i64 29, .int .i64 72, .int .i64 75] 34)) := bl_alloc (Below.refl _ _) _
  have JL : Blk (W7.alloc (.cells #[.int .i64 26, .int .i64 29, .int .i64 72, .int .i64 75] 34)) W7.heap.size 34 #[.int .i64 26, .int .i64 29, .int .i64 72, .int .i64 75] := Blk.new _ _ _
  have J1 := J1.ext hx
  have hB := bl_then hB hx
  have J2 := J2.ext hx
  have J3 := J3.ext hx
  have Ra := own_ext Ra hx
  have Rb := own_ext Rb hx
  clear hx
  have hsm := sameSpl_any (some ⟨gRb, 0, none⟩) (some ⟨W7.heap.size, 0, none⟩) 2 2 cRb 2 ex2 ex2 _ (RA.of_own Rb rfl (by omega)) (RA.two (cells := splCells) (x := ⟨26, 29⟩) (y := ⟨72, 75⟩) rfl rfl JL)
  rw [decide_eq_true rfl] at hsm
  refine hsm.mono ?_
  rintro e W9 ⟨rfl, hx⟩
  have J1 := J1.ext hx
  have hB := bl_then hB hx
  have J2 := J2.ext hx
  have J3 := J3.ext hx
  have Ra := own_ext Ra hx
  have Rb := own_ext Rb hx
  clear hx JL hsm
  clear Rb
  go_wp2_with fail
  refine (HE0.out _).mono ?_
  rintro e W10 ⟨rfl, hx⟩
  have J1 := J1.ext hx
  have hB := bl_then hB hx
  have J2 := J2.ext hx
  have J3 := J3.ext hx
  have Ra := own_ext Ra hx
  clear hx
  go_upto_region 11 with (first | (refine wpList_store_row rfl 27 _ _ rfl W10.heap.size X0 rfl rfl 27 _ ((Blk.new W10 27 #[.int .i64 0, .int .i64 0, .int .i64 0, .int .i64 0, .int .i64 0, .int .i64 0, .int .i64 0, .int .i64 0, .int .i64 0, .int .i64 0, .int .i64 0, .int .i64 0, .int .i64 0, .int .i64 0, .int .i64 0, .int .i64 0, .int .i64 0, .int .i64 0, .int .i64 0, .int .i64 0, .int .i64 0]).alloc _) (by rw [HZ0.out]; exact sat_size) (by rw [HZ0.out]; rfl) HO0.out ?_) | (refine wpList_store_row rfl 31 _ _ rfl (W10.heap.size + 1) TX rfl rfl 31 _ ((Blk.new_at (W10.alloc (.cells #[.int .i64 0, .int .i64 0, .int .i64 0, .int .i64 0, .int .i64 0, .int .i64 0, .int .i64 0, .int .i64 0, .int .i64 0, .int .i64 0, .int .i64 0, .int .i64 0, .int .i64 0, .int .i64 0, .int .i64 0, .int .i64 0, .int .i64 0, .int .i64 0, .int .i64 0, .int .i64 0, .int .i64 0] 27)) 31 #[.int .i64 0, .int .i64 0, .int .i64 0, .int .i64 0, .int .i64 0, .int .i64 0] (by simp)).rowFar (by omega) X0) (by rw [HZT.out]; exact stn_size) (by rw [HZT.out]; rfl) HOT.out ?_))
  obtain ⟨hx, J10, J11⟩ := two_vars W10 X0 TX
  obtain ⟨g10, hg⟩ : ∃ g, g = W10.heap.size := ⟨_, rfl⟩
  obtain ⟨g11, hg2⟩ : ∃ g, g = W10.heap.size + 1 := ⟨_, rfl⟩
  rw [← hg2] at hx J10 J11 ⊢
  rw [← hg] at hx J10 J11 ⊢
  generalize ((((W10.alloc (.cells #[.int .i64 0, .int .i64 0, .int .i64 0, .int .i64 0, .int .i64 0, .int .i64 0, .int .i64 0, .int .i64 0, .int .i64 0, .int .i64 0, .int .i64 0, .int .i64 0, .int .i64 0, .int .i64 0, .int .i64 0, .int .i64 0, .int .i64 0, .int .i64 0, .int .i64 0, .int .i64 0, .int .i64 0] 27)).alloc (.cells #[.int .i64 0, .int .i64 0, .int .i64 0, .int .i64 0, .int .i64 0, .int .i64 0] 31)).setRow g10 X0).setRow g11 TX) = W11 at hx J10 J11 ⊢
  clear hg hg2
  have J1 := J1.ext hx
  have hB := bl_then hB hx
  have J2 := J2.ext hx
  have J3 := J3.ext hx
  have Ra := own_ext Ra hx
  clear hx
  clear J11
  go_wp2_with fail
  refine (HE1.out _).mono ?_
  rintro e W12 ⟨rfl, hx⟩
  have J1 := J1.ext hx
  have hB := bl_then hB hx
  have J2 := J2.ext hx
  have J3 := J3.ext hx
  have Ra := own_ext Ra hx
  have J10 := J10.ext hx
  clear hx
  go_upto_region 12 with (first | (refine wpList_store_row rfl 27 _ _ rfl W12.heap.size X1 rfl rfl 27 _ ((Blk.new W12 27 #[.int .i64 0, .int .i64 0, .int .i64 0, .int .i64 0, .int .i64 0, .int .i64 0, .int .i64 0, .int .i64 0, .int .i64 0, .int .i64 0, .int .i64 0, .int .i64 0, .int .i64 0, .int .i64 0, .int .i64 0, .int .i64 0, .int .i64 0, .int .i64 0, .int .i64 0, .int .i64 0, .int .i64 0]).alloc _) (by rw [HZ1.out]; exact sat_size) (by rw [HZ1.out]; rfl) HO1.out ?_) | (refine wpList_store_row rfl 31 _ _ rfl (W12.heap.size + 1) TX rfl rfl 31 _ ((Blk.new_at (W12.alloc (.cells #[.int .i64 0, .int .i64 0, .int .i64 0, .int .i64 0, .int .i64 0, .int .i64 0, .int .i64 0, .int .i64 0, .int .i64 0, .int .i64 0, .int .i64 0, .int .i64 0, .int .i64 0, .int .i64 0, .int .i64 0, .int .i64 0, .int .i64 0, .int .i64 0, .int .i64 0, .int .i64 0, .int .i64 0] 27)) 31 #[.int .i64 0, .int .i64 0, .int .i64 0, .int .i64 0, .int .i64 0, .int .i64 0] (by simp)).rowFar (by omega) X1) (by rw [HZT.out]; exact stn_size) (by rw [HZT.out]; rfl) HOT.out ?_))
  obtain ⟨hx, J12, J13⟩ := two_vars W12 X1 TX
  obtain ⟨g12, hg⟩ : ∃ g, g = W12.heap.size := ⟨_, rfl⟩
  obtain ⟨g13, hg2⟩ : ∃ g, g = W12.heap.size + 1 := ⟨_, rfl⟩
  rw [← hg2] at hx J12 J13 ⊢
  rw [← hg] at hx J12 J13 ⊢
  generalize ((((W12.alloc (.cells #[.int .i64 0, .int .i64 0, .int .i64 0, .int .i64 0, .int .i64 0, .int .i64 0, .int .i64 0, .int .i64 0, .int .i64 0, .int .i64 0, .int .i64 0, .int .i64 0, .int .i64 0, .int .i64 0, .int .i64 0, .int .i64 0, .int .i64 0, .int .i64 0, .int .i64 0, .int .i64 0, .int .i64 0] 27)).alloc (.cells #[.int .i64 0, .int .i64 0, .int .i64 0, .int .i64 0, .int .i64 0, .int .i64 0] 31)).setRow g12 X1).setRow g13 TX) = W13 at hx J12 J13 ⊢
  clear hg hg2
  have J1 := J1.ext hx
  have hB := bl_then hB hx
  have J2 := J2.ext hx
  have J3 := J3.ext hx
  have Ra := own_ext Ra hx
  have J10 := J10.ext hx
  clear hx
  clear J13
  have s0 : (W13.alloc (.cells X0 27)).cell? ⟨g3, 0, none⟩ = some (.int .i64 2) := ((J3.alloc _).cell 0).trans (by rw [HTX.out]; rfl)
  have s1 : (W13.alloc (.cells X0 27)).cell? ⟨g3, 1, none⟩ = some (.int .i64 0) := ((J3.alloc _).cell 1).trans (by rw [HTX.out]; rfl)
  have s2 : (W13.alloc (.cells X0 27)).cell? ⟨g3, 2, none⟩ = some (.int .i64 12) := ((J3.alloc _).cell 2).trans (by rw [HTX.out]; rfl)
  have s3 : (W13.alloc (.cells X0 27)).cell? ⟨g3, 3, none⟩ = some (.int .i64 0) := ((J3.alloc _).cell 3).trans (by rw [HTX.out]; rfl)
  have s4 : (W13.alloc (.cells X0 27)).cell? ⟨g3, 4, none⟩ = some (.int .i64 1) := ((J3.alloc _).cell 4).trans (by rw [HTX.out]; rfl)
  have s5 : (W13.alloc (.cells X0 27)).cell? ⟨g3, 5, none⟩ = some (.int .i64 0) := ((J3.alloc _).cell 5).trans (by rw [HTX.out]; rfl)
  have p0 : ((W13.alloc (.cells X0 27)).alloc (.cells #[.int .i64 2, .int .i64 0, .int .i64 12, .int .i64 0, .int .i64 1, .int .i64 0] 31)).cell? ⟨g1, 0, none⟩ = some (.int .i64 0) := ((J1.alloc _).alloc _).cell 0
  have p1 : ((W13.alloc (.cells X0 27)).alloc (.cells #[.int .i64 2, .int .i64 0, .int .i64 12, .int .i64 0, .int .i64 1, .int .i64 0] 31)).cell? ⟨g1, 1, none⟩ = some (.int .i64 96) := ((J1.alloc _).alloc _).cell 1
  go_wp2_with (first | (refine wpList_load_st rfl 27 _ rfl g10 0 rfl X0 X0.toList (by simp) _ (Blk.range J10 _ rfl) Try.underlying27 rfl (by rw [Array.length_toList, HZ0.out]; exact sat_size) ?_) | (refine wpList_buildOne rfl 36 27 _ rfl X0 rfl Try.underlying36 21 info_sat2 HZ0.out (by omega) (by omega) ?_))
  have hx : Ext W13 ((W13.alloc (.cells X0 27)).alloc (.cells #[.int .i64 2, .int .i64 0, .int .i64 12, .int .i64 0, .int .i64 1, .int .i64 0] 31)) := bl_alloc (bl_alloc (Below.refl _ _) _) _
  have JA : Blk ((W13.alloc (.cells X0 27)).alloc (.cells #[.int .i64 2, .int .i64 0, .int .i64 12, .int .i64 0, .int .i64 1, .int .i64 0] 31)) W13.heap.size 27 X0 := (Blk.new _ _ _).alloc _
  have JB : Blk ((W13.alloc (.cells X0 27)).alloc (.cells #[.int .i64 2, .int .i64 0, .int .i64 12, .int .i64 0, .int .i64 1, .int .i64 0] 31)) (W13.heap.size + 1) 31 TX := by rw [HTX.out]; exact Blk.new_at _ _ _ (by simp)
  have J1 := J1.ext hx
  have hB := bl_then hB hx
  have J2 := J2.ext hx
  have J3 := J3.ext hx
  have Ra := own_ext Ra hx
  have J10 := J10.ext hx
  have J12 := J12.ext hx
  clear hx
  refine (HP0.out _ _ _ JA JB).mono ?_
  rintro e W14 ⟨vPa, rfl, hown, hx⟩
  clear s0 s1 s2 s3 s4 s5 p0 p1 JA JB
  have J1 := J1.ext hx
  have hB := bl_then hB hx
  have J2 := J2.ext hx
  have J3 := J3.ext hx
  have Ra := own_ext Ra hx
  have J10 := J10.ext hx
  have J12 := J12.ext hx
  clear hx
  have Pa : W14.ownsRow 0 47 6 vPa 2 (exA.flatMap pasCells) := own_base hown (Nat.zero_le _)
  obtain ⟨gPa, cPa, hv, _, _⟩ := World.ownsRow.form Pa (by omega)
  subst hv
  clear hown
  have s0 : (W14.alloc (.cells X1 27)).cell? ⟨g3, 0, none⟩ = some (.int .i64 2) := ((J3.alloc _).cell 0).trans (by rw [HTX.out]; rfl)
  have s1 : (W14.alloc (.cells X1 27)).cell? ⟨g3, 1, none⟩ = some (.int .i64 0) := ((J3.alloc _).cell 1).trans (by rw [HTX.out]; rfl)
  have s2 : (W14.alloc (.cells X1 27)).cell? ⟨g3, 2, none⟩ = some (.int .i64 12) := ((J3.alloc _).cell 2).trans (by rw [HTX.out]; rfl)
  have s3 : (W14.alloc (.cells X1 27)).cell? ⟨g3, 3, none⟩ = some (.int .i64 0) := ((J3.alloc _).cell 3).trans (by rw [HTX.out]; rfl)
  have s4 : (W14.alloc (.cells X1 27)).cell? ⟨g3, 4, none⟩ = some (.int .i64 1) := ((J3.alloc _).cell 4).trans (by rw [HTX.out]; rfl)
  have s5 : (W14.alloc (.cells X1 27)).cell? ⟨g3, 5, none⟩ = some (.int .i64 0) := ((J3.alloc _).cell 5).trans (by rw [HTX.out]; rfl)
  have p0 : ((W14.alloc (.cells X1 27)).alloc (.cells #[.int .i64 2, .int .i64 0, .int .i64 12, .int .i64 0, .int .i64 1, .int .i64 0] 31)).cell? ⟨g1, 0, none⟩ = some (.int .i64 0) := ((J1.alloc _).alloc _).cell 0
  have p1 : ((W14.alloc (.cells X1 27)).alloc (.cells #[.int .i64 2, .int .i64 0, .int .i64 12, .int .i64 0, .int .i64 1, .int .i64 0] 31)).cell? ⟨g1, 1, none⟩ = some (.int .i64 96) := ((J1.alloc _).alloc _).cell 1
  go_wp2_with (first | (refine wpList_load_st rfl 27 _ rfl g12 0 rfl X1 X1.toList (by simp) _ (Blk.range J12 _ rfl) Try.underlying27 rfl (by rw [Array.length_toList, HZ1.out]; exact sat_size) ?_) | (refine wpList_buildOne rfl 36 27 _ rfl X1 rfl Try.underlying36 21 info_sat2 HZ1.out (by omega) (by omega) ?_))
  have hx : Ext W14 ((W14.alloc (.cells X1 27)).alloc (.cells #[.int .i64 2, .int .i64 0, .int .i64 12, .int .i64 0, .int .i64 1, .int .i64 0] 31)) := bl_alloc (bl_alloc (Below.refl _ _) _) _
  have JA : Blk ((W14.alloc (.cells X1 27)).alloc (.cells #[.int .i64 2, .int .i64 0, .int .i64 12, .int .i64 0, .int .i64 1, .int .i64 0] 31)) W14.heap.size 27 X1 := (Blk.new _ _ _).alloc _
  have JB : Blk ((W14.alloc (.cells X1 27)).alloc (.cells #[.int .i64 2, .int .i64 0, .int .i64 12, .int .i64 0, .int .i64 1, .int .i64 0] 31)) (W14.heap.size + 1) 31 TX := by rw [HTX.out]; exact Blk.new_at _ _ _ (by simp)
  have J1 := J1.ext hx
  have hB := bl_then hB hx
  have J2 := J2.ext hx
  have J3 := J3.ext hx
  have Ra := own_ext Ra hx
  have J10 := J10.ext hx
  have J12 := J12.ext hx
  have Pa := own_ext Pa hx
  clear hx
  refine (HP1.out _ _ _ JA JB).mono ?_
  rintro e W15 ⟨vPb, rfl, hown, hx⟩
  clear s0 s1 s2 s3 s4 s5 p0 p1 JA JB
  have J1 := J1.ext hx
  have hB := bl_then hB hx
  have J2 := J2.ext hx
  have J3 := J3.ext hx
  have Ra := own_ext Ra hx
  have J10 := J10.ext hx
  have J12 := J12.ext hx
  have Pa := own_ext Pa hx
  clear hx
  have Pb : W15.ownsRow 0 47 6 vPb 2 (exB.flatMap pasCells) := own_base hown (Nat.zero_le _)
  obtain ⟨gPb, cPb, hv, _, _⟩ := World.ownsRow.form Pb (by omega)
  subst hv
  clear hown
  have s0 : (W15.alloc (.cells X3 27)).cell? ⟨g3, 0, none⟩ = some (.int .i64 2) := ((J3.alloc _).cell 0).trans (by rw [HTX.out]; rfl)
  have s1 : (W15.alloc (.cells X3 27)).cell? ⟨g3, 1, none⟩ = some (.int .i64 0) := ((J3.alloc _).cell 1).trans (by rw [HTX.out]; rfl)
  have s2 : (W15.alloc (.cells X3 27)).cell? ⟨g3, 2, none⟩ = some (.int .i64 12) := ((J3.alloc _).cell 2).trans (by rw [HTX.out]; rfl)
  have s3 : (W15.alloc (.cells X3 27)).cell? ⟨g3, 3, none⟩ = some (.int .i64 0) := ((J3.alloc _).cell 3).trans (by rw [HTX.out]; rfl)
  have s4 : (W15.alloc (.cells X3 27)).cell? ⟨g3, 4, none⟩ = some (.int .i64 1) := ((J3.alloc _).cell 4).trans (by rw [HTX.out]; rfl)
  have s5 : (W15.alloc (.cells X3 27)).cell? ⟨g3, 5, none⟩ = some (.int .i64 0) := ((J3.alloc _).cell 5).trans (by rw [HTX.out]; rfl)
  have p0 : ((W15.alloc (.cells X3 27)).alloc (.cells #[.int .i64 2, .int .i64 0, .int .i64 12, .int .i64 0, .int .i64 1, .int .i64 0] 31)).cell? ⟨g1, 0, none⟩ = some (.int .i64 0) := ((J1.alloc _).alloc _).cell 0
  have p1 : ((W15.alloc (.cells X3 27)).alloc (.cells #[.int .i64 2, .int .i64 0, .int .i64 12, .int .i64 0, .int .i64 1, .int .i64 0] 31)).cell? ⟨g1, 1, none⟩ = some (.int .i64 96) := ((J1.alloc _).alloc _).cell 1
  go_wp2_with (first | (refine wpList_load_st rfl 27 _ rfl g2 0 rfl X3 X3.toList (by simp) _ (Blk.range J2 _ rfl) Try.underlying27 rfl (by rw [Array.length_toList, HZ3.out]; exact sat_size) ?_) | (refine wpList_buildOne rfl 36 27 _ rfl X3 rfl Try.underlying36 21 info_sat2 HZ3.out (by omega) (by omega) ?_))
  have hx : Ext W15 ((W15.alloc (.cells X3 27)).alloc (.cells #[.int .i64 2, .int .i64 0, .int .i64 12, .int .i64 0, .int .i64 1, .int .i64 0] 31)) := bl_alloc (bl_alloc (Below.refl _ _) _) _
  have JA : Blk ((W15.alloc (.cells X3 27)).alloc (.cells #[.int .i64 2, .int .i64 0, .int .i64 12, .int .i64 0, .int .i64 1, .int .i64 0] 31)) W15.heap.size 27 X3 := (Blk.new _ _ _).alloc _
  have JB : Blk ((W15.alloc (.cells X3 27)).alloc (.cells #[.int .i64 2, .int .i64 0, .int .i64 12, .int .i64 0, .int .i64 1, .int .i64 0] 31)) (W15.heap.size + 1) 31 TX := by rw [HTX.out]; exact Blk.new_at _ _ _ (by simp)
  have J1 := J1.ext hx
  have hB := bl_then hB hx
  have J2 := J2.ext hx
  have J3 := J3.ext hx
  have Ra := own_ext Ra hx
  have J10 := J10.ext hx
  have J12 := J12.ext hx
  have Pa := own_ext Pa hx
  have Pb := own_ext Pb hx
  clear hx
  refine (HP3.out _ _ _ JA JB).mono ?_
  rintro e W16 ⟨vPc, rfl, hown, hx⟩
  clear s0 s1 s2 s3 s4 s5 p0 p1 JA JB
  have J1 := J1.ext hx
  have hB := bl_then hB hx
  have J2 := J2.ext hx
  have J3 := J3.ext hx
  have Ra := own_ext Ra hx
  have J10 := J10.ext hx
  have J12 := J12.ext hx
  have Pa := own_ext Pa hx
  have Pb := own_ext Pb hx
  clear hx
  have Pc : W16.ownsRow 0 47 6 vPc 2 (exC.flatMap pasCells) := own_base hown (Nat.zero_le _)
  obtain ⟨gPc, cPc, hv, _, _⟩ := World.ownsRow.form Pc (by omega)
  subst hv
  clear hown
  have q0 : W16.cell? ⟨gRa, 0, none⟩ = some (.int .i64 24) := Ra.cellAt 0 (by omega)
  have q1 : W16.cell? ⟨gRa, 1, none⟩ = some (.int .i64 27) := Ra.cellAt 1 (by omega)
  have q2 : W16.cell? ⟨gRa, 2, none⟩ = some (.int .i64 70) := Ra.cellAt 2 (by omega)
  have q3 : W16.cell? ⟨gRa, 3, none⟩ = some (.int .i64 73) := Ra.cellAt 3 (by omega)
  go_upto_region 17 with (fail)
  refine wp_region_obl 15 (fun ix vals v w1 => match ix with | 0 => v = .slice (some ⟨gRa, 0, none⟩) 2 cRa | 1 => v = .pointer (some ⟨gRa, 0, none⟩) | 2 => v = .agg #[.int .i64 24, .int .i64 27] | 3 => v = .slice (some ⟨gRa, 0, none⟩) 2 cRa | 4 => v = .pointer (some ⟨gRa, 0, none⟩) | 5 => v = .agg #[.int .i64 24, .int .i64 27] | 6 => v = .agg #[.int .i64 1, .int .i64 2, .int .i64 24, .int .i64 27, .int .i64 24, .int .i64 27] | 7 => v = .slice (some ⟨gRa, 0, none⟩) 2 cRa | 8 => v = .pointer (some ⟨gRa, 2, none⟩) | 9 => v = .agg #[.int .i64 70, .int .i64 73] | 10 => v = .slice (some ⟨gRa, 0, none⟩) 2 cRa | 11 => v = .pointer (some ⟨gRa, 2, none⟩) | 12 => v = .agg #[.int .i64 70, .int .i64 73] | 13 => v = .agg #[.int .i64 1, .int .i64 2, .int .i64 70, .int .i64 73, .int .i64 70, .int .i64 73] | _ => ∃ g, v = .slice (some ⟨g, 0, none⟩) 2 2 ∧ Blk w1 g 47 #[.int .i64 1, .int .i64 2, .int .i64 24, .int .i64 27, .int .i64 24, .int .i64 27, .int .i64 1, .int .i64 2, .int .i64 70, .int .i64 73, .int .i64 70, .int .i64 73]) (by kernel_rfl) (by kernel_rfl) ?_ ?_ ?_ ?_
  · intro ix vals v w1 w2 hi hr hx
    match ix, hr with
    | 0, hr => exact hr
    | 1, hr => exact hr
    | 2, hr => exact hr
    | 3, hr => exact hr
    | 4, hr => exact hr
    | 5, hr => exact hr
    | 6, hr => exact hr
    | 7, hr => exact hr
    | 8, hr => exact hr
    | 9, hr => exact hr
    | 10, hr => exact hr
    | 11, hr => exact hr
    | 12, hr => exact hr
    | 13, hr => exact hr
    | (kx + 14), hr => obtain ⟨g, h1, h2⟩ := hr; exact ⟨g, h1, h2.ext hx⟩
  · intro ix vals vals_ v w1 hi hv hr
    exact hr
  · refine obls_ofT [some 125, some 126, some 127, some 128, some 129, some 130, some 131, some 132, some 133, some 134, some 135, some 136, some 137, some 138, some 139, some 20] [(4, .slice (some ⟨gRa, 0, none⟩) 2 cRa)] 268 (by kernel_rfl) (by kernel_rfl) ⟨by kernel_rfl, trivial⟩ ?_
    refine ⟨?_, ?_, ?_, ?_, ?_, ?_, ?_, ?_, ?_, ?_, ?_, ?_, ?_, ?_, ?_, trivial⟩
    · intro vals w1 hx hd
      refine .run [(4, .slice (some ⟨gRa, 0, none⟩) 2 cRa)] { dst := some 0, op := Go.Op.move (Go.Operand.const (.slice (some ⟨gRa, 0, none⟩) 2 cRa)), type := 54, pos := "", after := #[], guard := none } 125 ⟨.out (by kernel_rfl) (by kernel_rfl), trivial⟩ (by kernel_rfl) (by kernel_rfl) (by kernel_rfl) rfl rfl rfl ?_
      clear hd
      go_wp2
      exact ⟨rfl, Ext.refl _, rfl⟩
    · intro vals w1 hx hd
      have e0 : vals 0 = .slice (some ⟨gRa, 0, none⟩) 2 cRa := hd 0 (by decide)
      refine .run [(125, .slice (some ⟨gRa, 0, none⟩) 2 cRa)] { dst := some 0, op := Go.Op.indexAddr 54 (Go.Operand.const (.slice (some ⟨gRa, 0, none⟩) 2 cRa)) (Go.Operand.const (Go.Value.int Go.IntKind.i64 0)), type := 0, pos := "", after := #[], guard := none } 126 ⟨.inn 0 (by kernel_rfl) e0, trivial⟩ (by kernel_rfl) (by kernel_rfl) (by kernel_rfl) rfl rfl rfl ?_
      clear hd e0
      go_wp2
      exact ⟨rfl, Ext.refl _, rfl⟩
    · intro vals w1 hx hd
      have e1 : vals 1 = .pointer (some ⟨gRa, 0, none⟩) := hd 1 (by decide)
      refine .run [(126, .pointer (some ⟨gRa, 0, none⟩))] { dst := some 0, op := Go.Op.load 34 (Go.Operand.const (.pointer (some ⟨gRa, 0, none⟩))), type := 34, pos := "", after := #[], guard := none } 127 ⟨.inn 1 (by kernel_rfl) e1, trivial⟩ (by kernel_rfl) (by kernel_rfl) (by kernel_rfl) rfl rfl rfl ?_
      clear hd e1
      have q0 := ext_cell hx q0
      have q1 := ext_cell hx q1
      go_wp2
      exact ⟨rfl, Ext.refl _, rfl⟩
    · intro vals w1 hx hd
      refine .run [(4, .slice (some ⟨gRa, 0, none⟩) 2 cRa)] { dst := some 0, op := Go.Op.move (Go.Operand.const (.slice (some ⟨gRa, 0, none⟩) 2 cRa)), type := 54, pos := "", after := #[], guard := none } 128 ⟨.out (by kernel_rfl) (by kernel_rfl), trivial⟩ (by kernel_rfl) (by kernel_rfl) (by kernel_rfl) rfl rfl rfl ?_
      clear hd
      go_wp2
      exact ⟨rfl, Ext.refl _, rfl⟩
    · intro vals w1 hx hd
      have e3 : vals 3 = .slice (some ⟨gRa, 0, none⟩) 2 cRa := hd 3 (by decide)
      refine .run [(128, .slice (some ⟨gRa, 0, none⟩) 2 cRa)] { dst := some 0, op := Go.Op.indexAddr 54 (Go.Operand.const (.slice (some ⟨gRa, 0, none⟩) 2 cRa)) (Go.Operand.const (Go.Value.int Go.IntKind.i64 0)), type := 0, pos := "", after := #[], guard := none } 129 ⟨.inn 3 (by kernel_rfl) e3, trivial⟩ (by kernel_rfl) (by kernel_rfl) (by kernel_rfl) rfl rfl rfl ?_
      clear hd e3
      go_wp2
      exact ⟨rfl, Ext.refl _, rfl⟩
    · intro vals w1 hx hd
      have e4 : vals 4 = .pointer (some ⟨gRa, 0, none⟩) := hd 4 (by decide)
      refine .run [(129, .pointer (some ⟨gRa, 0, none⟩))] { dst := some 0, op := Go.Op.load 34 (Go.Operand.const (.pointer (some ⟨gRa, 0, none⟩))), type := 34, pos := "", after := #[], guard := none } 130 ⟨.inn 4 (by kernel_rfl) e4, trivial⟩ (by kernel_rfl) (by kernel_rfl) (by kernel_rfl) rfl rfl rfl ?_
      clear hd e4
      have q0 := ext_cell hx q0
      have q1 := ext_cell hx q1
      go_wp2
      exact ⟨rfl, Ext.refl _, rfl⟩
    · intro vals w1 hx hd
      have e2 : vals 2 = .agg #[.int .i64 24, .int .i64 27] := hd 2 (by decide)
      have e5 : vals 5 = .agg #[.int .i64 24, .int .i64 27] := hd 5 (by decide)
      refine .run [(127, .agg #[.int .i64 24, .int .i64 27]), (130, .agg #[.int .i64 24, .int .i64 27])] { dst := some 0, op := Go.Op.build 47 #[(0, Go.Operand.const (Go.Value.int Go.IntKind.i64 1)), (1, Go.Operand.const (Go.Value.int Go.IntKind.i64 2)), (2, (Go.Operand.const (.agg #[.int .i64 24, .int .i64 27]))), (3, (Go.Operand.const (.agg #[.int .i64 24, .int .i64 27])))], type := 47, pos := "", after := #[], guard := none } 131 ⟨.inn 2 (by kernel_rfl) e2, .inn 5 (by kernel_rfl) e5, trivial⟩ (by kernel_rfl) (by kernel_rfl) (by kernel_rfl) rfl rfl rfl ?_
      clear hd e2 e5
      go_wp2
      exact ⟨rfl, Ext.refl _, rfl⟩
    · intro vals w1 hx hd
      refine .run [(4, .slice (some ⟨gRa, 0, none⟩) 2 cRa)] { dst := some 0, op := Go.Op.move (Go.Operand.const (.slice (some ⟨gRa, 0, none⟩) 2 cRa)), type := 54, pos := "", after := #[], guard := none } 132 ⟨.out (by kernel_rfl) (by kernel_rfl), trivial⟩ (by kernel_rfl) (by kernel_rfl) (by kernel_rfl) rfl rfl rfl ?_
      clear hd
      go_wp2
      exact ⟨rfl, Ext.refl _, rfl⟩
    · intro vals w1 hx hd
      have e7 : vals 7 = .slice (some ⟨gRa, 0, none⟩) 2 cRa := hd 7 (by decide)
      refine .run [(132, .slice (some ⟨gRa, 0, none⟩) 2 cRa)] { dst := some 0, op := Go.Op.indexAddr 54 (Go.Operand.const (.slice (some ⟨gRa, 0, none⟩) 2 cRa)) (Go.Operand.const (Go.Value.int Go.IntKind.i64 1)), type := 0, pos := "", after := #[], guard := none } 133 ⟨.inn 7 (by kernel_rfl) e7, trivial⟩ (by kernel_rfl) (by kernel_rfl) (by kernel_rfl) rfl rfl rfl ?_
      clear hd e7
      go_wp2
      exact ⟨rfl, Ext.refl _, rfl⟩
    · intro vals w1 hx hd
      have e8 : vals 8 = .pointer (some ⟨gRa, 2, none⟩) := hd 8 (by decide)
      refine .run [(133, .pointer (some ⟨gRa, 2, none⟩))] { dst := some 0, op := Go.Op.load 34 (Go.Operand.const (.pointer (some ⟨gRa, 2, none⟩))), type := 34, pos := "", after := #[], guard := none } 134 ⟨.inn 8 (by kernel_rfl) e8, trivial⟩ (by kernel_rfl) (by kernel_rfl) (by kernel_rfl) rfl rfl rfl ?_
      clear hd e8
      have q2 := ext_cell hx q2
      have q3 := ext_cell hx q3
      go_wp2
      exact ⟨rfl, Ext.refl _, rfl⟩
    · intro vals w1 hx hd
      refine .run [(4, .slice (some ⟨gRa, 0, none⟩) 2 cRa)] { dst := some 0, op := Go.Op.move (Go.Operand.const (.slice (some ⟨gRa, 0, none⟩) 2 cRa)), type := 54, pos := "", after := #[], guard := none } 135 ⟨.out (by kernel_rfl) (by kernel_rfl), trivial⟩ (by kernel_rfl) (by kernel_rfl) (by kernel_rfl) rfl rfl rfl ?_
      clear hd
      go_wp2
      exact ⟨rfl, Ext.refl _, rfl⟩
    · intro vals w1 hx hd
      have e10 : vals 10 = .slice (some ⟨gRa, 0, none⟩) 2 cRa := hd 10 (by decide)
      refine .run [(135, .slice (some ⟨gRa, 0, none⟩) 2 cRa)] { dst := some 0, op := Go.Op.indexAddr 54 (Go.Operand.const (.slice (some ⟨gRa, 0, none⟩) 2 cRa)) (Go.Operand.const (Go.Value.int Go.IntKind.i64 1)), type := 0, pos := "", after := #[], guard := none } 136 ⟨.inn 10 (by kernel_rfl) e10, trivial⟩ (by kernel_rfl) (by kernel_rfl) (by kernel_rfl) rfl rfl rfl ?_
      clear hd e10
      go_wp2
      exact ⟨rfl, Ext.refl _, rfl⟩
    · intro vals w1 hx hd
      have e11 : vals 11 = .pointer (some ⟨gRa, 2, none⟩) := hd 11 (by decide)
      refine .run [(136, .pointer (some ⟨gRa, 2, none⟩))] { dst := some 0, op := Go.Op.load 34 (Go.Operand.const (.pointer (some ⟨gRa, 2, none⟩))), type := 34, pos := "", after := #[], guard := none } 137 ⟨.inn 11 (by kernel_rfl) e11, trivial⟩ (by kernel_rfl) (by kernel_rfl) (by kernel_rfl) rfl rfl rfl ?_
      clear hd e11
      have q2 := ext_cell hx q2
      have q3 := ext_cell hx q3
      go_wp2
      exact ⟨rfl, Ext.refl _, rfl⟩
    · intro vals w1 hx hd
      have e9 : vals 9 = .agg #[.int .i64 70, .int .i64 73] := hd 9 (by decide)
      have e12 : vals 12 = .agg #[.int .i64 70, .int .i64 73] := hd 12 (by decide)
      refine .run [(134, .agg #[.int .i64 70, .int .i64 73]), (137, .agg #[.int .i64 70, .int .i64 73])] { dst := some 0, op := Go.Op.build 47 #[(0, Go.Operand.const (Go.Value.int Go.IntKind.i64 1)), (1, Go.Operand.const (Go.Value.int Go.IntKind.i64 2)), (2, (Go.Operand.const (.agg #[.int .i64 70, .int .i64 73]))), (3, (Go.Operand.const (.agg #[.int .i64 70, .int .i64 73])))], type := 47, pos := "", after := #[], guard := none } 138 ⟨.inn 9 (by kernel_rfl) e9, .inn 12 (by kernel_rfl) e12, trivial⟩ (by kernel_rfl) (by kernel_rfl) (by kernel_rfl) rfl rfl rfl ?_
      clear hd e9 e12
      go_wp2
      exact ⟨rfl, Ext.refl _, rfl⟩
    · intro vals w1 hx hd
      have e6 : vals 6 = .agg #[.int .i64 1, .int .i64 2, .int .i64 24, .int .i64 27, .int .i64 24, .int .i64 27] := hd 6 (by decide)
      have e13 : vals 13 = .agg #[.int .i64 1, .int .i64 2, .int .i64 70, .int .i64 73, .int .i64 70, .int .i64 73] := hd 13 (by decide)
      refine .run [(131, .agg #[.int .i64 1, .int .i64 2, .int .i64 24, .int .i64 27, .int .i64 24, .int .i64 27]), (138, .agg #[.int .i64 1, .int .i64 2, .int .i64 70, .int .i64 73, .int .i64 70, .int .i64 73])] { dst := some 0, op := Go.Op.buildSlice 32 2 #[(0, (Go.Operand.const (.agg #[.int .i64 1, .int .i64 2, .int .i64 24, .int .i64 27, .int .i64 24, .int .i64 27]))), (1, (Go.Operand.const (.agg #[.int .i64 1, .int .i64 2, .int .i64 70, .int .i64 73, .int .i64 70, .int .i64 73])))], type := 32, pos := "", after := #[], guard := none } 139 ⟨.inn 6 (by kernel_rfl) e6, .inn 13 (by kernel_rfl) e13, trivial⟩ (by kernel_rfl) (by kernel_rfl) (by kernel_rfl) rfl rfl rfl ?_
      clear hd e6 e13
      have hz := Below.size hx.undrew
      go_wp2
      exact ⟨rfl, (by repeat (first | exact Below.refl _ _ | assumption | refine Below.drew ?_ | refine below_drewN ?_ _ | refine bl_alloc ?_ _ | refine Below.setCell ?_ (by first | (simp; done) | omega | (simp; omega)) _ | refine bl_then ?_ (by assumption))), _, rfl, Blk.new _ _ _⟩
  intro vals W17 hx hf
  obtain ⟨g20, e14, J20⟩ : ∃ g, vals 14 = .slice (some ⟨g, 0, none⟩) 2 2 ∧ Blk W17 g 47 #[.int .i64 1, .int .i64 2, .int .i64 24, .int .i64 27, .int .i64 24, .int .i64 27, .int .i64 1, .int .i64 2, .int .i64 70, .int .i64 73, .int .i64 70, .int .i64 73] := hf 14 (by omega)
  clear hf q0 q1 q2 q3
  have hx := hx.undrew
  have J1 := J1.ext hx
  have hB := bl_then hB hx
  have J2 := J2.ext hx
  have J3 := J3.ext hx
  have Ra := own_ext Ra hx
  have J10 := J10.ext hx
  have J12 := J12.ext hx
  have Pa := own_ext Pa hx
  have Pb := own_ext Pb hx
  have Pc := own_ext Pc hx
  clear hx Ra
  refine tail1 15 _ (by kernel_rfl) (by kernel_rfl) rfl ?_
  simp only [Lf, dstAt, Act.put, List.getElem?_toArray, List.getElem?_cons_zero, List.getElem?_cons_succ, Option.bind_some, List.setIfInBounds_toArray, List.set_cons_zero, List.set_cons_succ]
  rw [e14]
  clear e14
  go_upto_region 20 with (fail)
  obtain ⟨g21, hg21⟩ : ∃ g, g = W17.heap.size := ⟨_, rfl⟩
  obtain ⟨g22, hg22⟩ : ∃ g, g = W17.heap.size + 1 := ⟨_, rfl⟩
  have J21 : Blk ((W17.alloc (.cells #[.int .i64 1, .int .i64 2, .int .i64 25, .int .i64 26, .int .i64 23, .int .i64 28, .int .i64 1, .int .i64 2, .int .i64 71, .int .i64 72, .int .i64 69, .int .i64 74] 47)).alloc (.cells #[.int .i64 1, .int .i64 2, .int .i64 0, .int .i64 0, .int .i64 21, .int .i64 30, .int .i64 1, .int .i64 2, .int .i64 0, .int .i64 0, .int .i64 67, .int .i64 76] 47)) g21 47 #[.int .i64 1, .int .i64 2, .int .i64 25, .int .i64 26, .int .i64 23, .int .i64 28, .int .i64 1, .int .i64 2, .int .i64 71, .int .i64 72, .int .i64 69, .int .i64 74] := (Blk.new_at _ _ _ hg21.symm).alloc _
  have J22 : Blk ((W17.alloc (.cells #[.int .i64 1, .int .i64 2, .int .i64 25, .int .i64 26, .int .i64 23, .int .i64 28, .int .i64 1, .int .i64 2, .int .i64 71, .int .i64 72, .int .i64 69, .int .i64 74] 47)).alloc (.cells #[.int .i64 1, .int .i64 2, .int .i64 0, .int .i64 0, .int .i64 21, .int .i64 30, .int .i64 1, .int .i64 2, .int .i64 0, .int .i64 0, .int .i64 67, .int .i64 76] 47)) g22 47 #[.int .i64 1, .int .i64 2, .int .i64 0, .int .i64 0, .int .i64 21, .int .i64 30, .int .i64 1, .int .i64 2, .int .i64 0, .int .i64 0, .int .i64 67, .int .i64 76] := Blk.new_at _ _ _ (by simp [hg22])
  have hx : Ext W17 ((W17.alloc (.cells #[.int .i64 1, .int .i64 2, .int .i64 25, .int .i64 26, .int .i64 23, .int .i64 28, .int .i64 1, .int .i64 2, .int .i64 71, .int .i64 72, .int .i64 69, .int .i64 74] 47)).alloc (.cells #[.int .i64 1, .int .i64 2, .int .i64 0, .int .i64 0, .int .i64 21, .int .i64 30, .int .i64 1, .int .i64 2, .int .i64 0, .int .i64 0, .int .i64 67, .int .i64 76] 47)) := bl_alloc (bl_alloc (Below.refl _ _) _) _
  rw [← hg22, ← hg21]
  generalize (W17.alloc (.cells #[.int .i64 1, .int .i64 2, .int .i64 25, .int .i64 26, .int .i64 23, .int .i64 28, .int .i64 1, .int .i64 2, .int .i64 71, .int .i64 72, .int .i64 69, .int .i64 74] 47)).alloc (.cells #[.int .i64 1, .int .i64 2, .int .i64 0, .int .i64 0, .int .i64 21, .int .i64 30, .int .i64 1, .int .i64 2, .int .i64 0, .int .i64 0, .int .i64 67, .int .i64 76] 47) = W18 at hx J21 J22 ⊢
  clear hg21 hg22
  have J1 := J1.ext hx
  have hB := bl_then hB hx
  have J2 := J2.ext hx
  have J3 := J3.ext hx
  have J10 := J10.ext hx
  have J12 := J12.ext hx
  have Pa := own_ext Pa hx
  have Pb := own_ext Pb hx
  have Pc := own_ext Pc hx
  have J20 := J20.ext hx
  clear hx
  have o2 : W18.cell? ⟨g10, 2, none⟩ = some (.int .i64 96) := (J10.cell 2).trans (by rw [HX0.out]; rfl)
  have o3 : W18.cell? ⟨g10, 3, none⟩ = some (.int .i64 0) := (J10.cell 3).trans (by rw [HX0.out]; rfl)
  have o4 : W18.cell? ⟨g10, 4, none⟩ = some (.int .i64 4000) := (J10.cell 4).trans (by rw [HX0.out]; rfl)
  have o5 : W18.cell? ⟨g10, 5, none⟩ = some (.int .i64 20000) := (J10.cell 5).trans (by rw [HX0.out]; rfl)
  have o6 : W18.cell? ⟨g10, 6, none⟩ = some (.int .i64 0) := (J10.cell 6).trans (by rw [HX0.out]; rfl)
  have o7 : W18.cell? ⟨g10, 7, none⟩ = some (.int .i64 0) := (J10.cell 7).trans (by rw [HX0.out]; rfl)
  have o8 : W18.cell? ⟨g10, 8, none⟩ = some (.int .i64 0) := (J10.cell 8).trans (by rw [HX0.out]; rfl)
  have s0 : W18.cell? ⟨g3, 0, none⟩ = some (.int .i64 2) := (J3.cell 0).trans (by rw [HTX.out]; rfl)
  have s1 : W18.cell? ⟨g3, 1, none⟩ = some (.int .i64 0) := (J3.cell 1).trans (by rw [HTX.out]; rfl)
  have s2 : W18.cell? ⟨g3, 2, none⟩ = some (.int .i64 12) := (J3.cell 2).trans (by rw [HTX.out]; rfl)
  have s3 : W18.cell? ⟨g3, 3, none⟩ = some (.int .i64 0) := (J3.cell 3).trans (by rw [HTX.out]; rfl)
  have s4 : W18.cell? ⟨g3, 4, none⟩ = some (.int .i64 1) := (J3.cell 4).trans (by rw [HTX.out]; rfl)
  have s5 : W18.cell? ⟨g3, 5, none⟩ = some (.int .i64 0) := (J3.cell 5).trans (by rw [HTX.out]; rfl)
  go_wp2_with fail
  refine (HV26.out _).mono ?_
  rintro e W19 ⟨rfl, hx⟩
  clear o2 o3 o4 o5 o6 o7 o8 s0 s1 s2 s3 s4 s5
  have J1 := J1.ext hx
  have hB := bl_then hB hx
  have J2 := J2.ext hx
  have J3 := J3.ext hx
  have J10 := J10.ext hx
  have J12 := J12.ext hx
  have Pa := own_ext Pa hx
  have Pb := own_ext Pb hx
  have Pc := own_ext Pc hx
  have J20 := J20.ext hx
  have J21 := J21.ext hx
  have J22 := J22.ext hx
  clear hx
  have o2 : W19.cell? ⟨g10, 2, none⟩ = some (.int .i64 96) := (J10.cell 2).trans (by rw [HX0.out]; rfl)
  have o3 : W19.cell? ⟨g10, 3, none⟩ = some (.int .i64 0) := (J10.cell 3).trans (by rw [HX0.out]; rfl)
  have o4 : W19.cell? ⟨g10, 4, none⟩ = some (.int .i64 4000) := (J10.cell 4).trans (by rw [HX0.out]; rfl)
  have o5 : W19.cell? ⟨g10, 5, none⟩ = some (.int .i64 20000) := (J10.cell 5).trans (by rw [HX0.out]; rfl)
  have o6 : W19.cell? ⟨g10, 6, none⟩ = some (.int .i64 0) := (J10.cell 6).trans (by rw [HX0.out]; rfl)
  have o7 : W19.cell? ⟨g10, 7, none⟩ = some (.int .i64 0) := (J10.cell 7).trans (by rw [HX0.out]; rfl)
  have o8 : W19.cell? ⟨g10, 8, none⟩ = some (.int .i64 0) := (J10.cell 8).trans (by rw [HX0.out]; rfl)
  have s0 : W19.cell? ⟨g3, 0, none⟩ = some (.int .i64 2) := (J3.cell 0).trans (by rw [HTX.out]; rfl)
  have s1 : W19.cell? ⟨g3, 1, none⟩ = some (.int .i64 0) := (J3.cell 1).trans (by rw [HTX.out]; rfl)
  have s2 : W19.cell? ⟨g3, 2, none⟩ = some (.int .i64 12) := (J3.cell 2).trans (by rw [HTX.out]; rfl)
  have s3 : W19.cell? ⟨g3, 3, none⟩ = some (.int .i64 0) := (J3.cell 3).trans (by rw [HTX.out]; rfl)
  have s4 : W19.cell? ⟨g3, 4, none⟩ = some (.int .i64 1) := (J3.cell 4).trans (by rw [HTX.out]; rfl)
  have s5 : W19.cell? ⟨g3, 5, none⟩ = some (.int .i64 0) := (J3.cell 5).trans (by rw [HTX.out]; rfl)
  go_wp2_with fail
  refine (HV27.out _).mono ?_
  rintro e W20 ⟨rfl, hx⟩
  clear o2 o3 o4 o5 o6 o7 o8 s0 s1 s2 s3 s4 s5
  have J1 := J1.ext hx
  have hB := bl_then hB hx
  have J2 := J2.ext hx
  have J3 := J3.ext hx
  have J10 := J10.ext hx
  have J12 := J12.ext hx
  have Pa := own_ext Pa hx
  have Pb := own_ext Pb hx
  have Pc := own_ext Pc hx
  have J20 := J20.ext hx
  have J21 := J21.ext hx
  have J22 := J22.ext hx
  clear hx
  go_wp2_with fail
  have hsm := samePas_any (some ⟨gPa, 0, none⟩) (some ⟨g20, 0, none⟩) 2 2 cPa 2 exA exA _ (RA.of_own Pa rfl (by omega)) (RA.two (cells := pasCells) (x := ⟨1, 2, ⟨24, 27⟩, ⟨24, 27⟩⟩) (y := ⟨1, 2, ⟨70, 73⟩, ⟨70, 73⟩⟩) rfl rfl J20)
  rw [decide_eq_true rfl] at hsm
  refine hsm.mono ?_
  rintro e W21 ⟨rfl, hx⟩
  have J1 := J1.ext hx
  have hB := bl_then hB hx
  have J2 := J2.ext hx
  have J3 := J3.ext hx
  have J10 := J10.ext hx
  have J12 := J12.ext hx
  have Pa := own_ext Pa hx
  have Pb := own_ext Pb hx
  have Pc := own_ext Pc hx
  have J20 := J20.ext hx
  have J21 := J21.ext hx
  have J22 := J22.ext hx
  clear hx hsm J20
  go_wp2_with fail
  have hsm := samePas_any (some ⟨gPb, 0, none⟩) (some ⟨g21, 0, none⟩) 2 2 cPb 2 exB exB _ (RA.of_own Pb rfl (by omega)) (RA.two (cells := pasCells) (x := ⟨1, 2, ⟨25, 26⟩, ⟨23, 28⟩⟩) (y := ⟨1, 2, ⟨71, 72⟩, ⟨69, 74⟩⟩) rfl rfl J21)
  rw [decide_eq_true rfl] at hsm
  refine hsm.mono ?_
  rintro e W22 ⟨rfl, hx⟩
  have J1 := J1.ext hx
  have hB := bl_then hB hx
  have J2 := J2.ext hx
  have J3 := J3.ext hx
  have J10 := J10.ext hx
  have J12 := J12.ext hx
  have Pa := own_ext Pa hx
  have Pb := own_ext Pb hx
  have Pc := own_ext Pc hx
  have J21 := J21.ext hx
  have J22 := J22.ext hx
  clear hx hsm J21
  go_wp2_with fail
  have hsm := samePas_any (some ⟨gPc, 0, none⟩) (some ⟨g22, 0, none⟩) 2 2 cPc 2 exC exC _ (RA.of_own Pc rfl (by omega)) (RA.two (cells := pasCells) (x := ⟨1, 2, ⟨0, 0⟩, ⟨21, 30⟩⟩) (y := ⟨1, 2, ⟨0, 0⟩, ⟨67, 76⟩⟩) rfl rfl J22)
  rw [decide_eq_true rfl] at hsm
  refine hsm.mono ?_
  rintro e W23 ⟨rfl, hx⟩
  have J1 := J1.ext hx
  have hB := bl_then hB hx
  have J2 := J2.ext hx
  have J3 := J3.ext hx
  have J10 := J10.ext hx
  have J12 := J12.ext hx
  have Pa := own_ext Pa hx
  have Pb := own_ext Pb hx
  have Pc := own_ext Pc hx
  have J22 := J22.ext hx
  clear hx hsm J22
  have qa0 : W23.cell? ⟨gPa, 0, none⟩ = some (.int .i64 1) := Pa.cellAt 0 (by omega)
  have qa1 : W23.cell? ⟨gPa, 1, none⟩ = some (.int .i64 2) := Pa.cellAt 1 (by omega)
  have qa2 : W23.cell? ⟨gPa, 2, none⟩ = some (.int .i64 24) := Pa.cellAt 2 (by omega)
  have qa3 : W23.cell? ⟨gPa, 3, none⟩ = some (.int .i64 27) := Pa.cellAt 3 (by omega)
  have qa4 : W23.cell? ⟨gPa, 4, none⟩ = some (.int .i64 24) := Pa.cellAt 4 (by omega)
  have qa5 : W23.cell? ⟨gPa, 5, none⟩ = some (.int .i64 27) := Pa.cellAt 5 (by omega)
  have qc0 : W23.cell? ⟨gPc, 0, none⟩ = some (.int .i64 1) := Pc.cellAt 0 (by omega)
  have qc1 : W23.cell? ⟨gPc, 1, none⟩ = some (.int .i64 2) := Pc.cellAt 1 (by omega)
  have qc2 : W23.cell? ⟨gPc, 2, none⟩ = some (.int .i64 0) := Pc.cellAt 2 (by omega)
  have qc3 : W23.cell? ⟨gPc, 3, none⟩ = some (.int .i64 0) := Pc.cellAt 3 (by omega)
  have qc4 : W23.cell? ⟨gPc, 4, none⟩ = some (.int .i64 21) := Pc.cellAt 4 (by omega)
  have qc5 : W23.cell? ⟨gPc, 5, none⟩ = some (.int .i64 30) := Pc.cellAt 5 (by omega)
  have qd0 : W23.cell? ⟨gPb, 6, none⟩ = some (.int .i64 1) := Pb.cellAt 6 (by omega)
  have qd1 : W23.cell? ⟨gPb, 7, none⟩ = some (.int .i64 2) := Pb.cellAt 7 (by omega)
  have qd2 : W23.cell? ⟨gPb, 8, none⟩ = some (.int .i64 71) := Pb.cellAt 8 (by omega)
  have qd3 : W23.cell? ⟨gPb, 9, none⟩ = some (.int .i64 72) := Pb.cellAt 9 (by omega)
  have qd4 : W23.cell? ⟨gPb, 10, none⟩ = some (.int .i64 69) := Pb.cellAt 10 (by omega)
  have qd5 : W23.cell? ⟨gPb, 11, none⟩ = some (.int .i64 74) := Pb.cellAt 11 (by omega)
  have qb0 : W23.cell? ⟨gPb, 0, none⟩ = some (.int .i64 1) := Pb.cellAt 0 (by omega)
  have qb1 : W23.cell? ⟨gPb, 1, none⟩ = some (.int .i64 2) := Pb.cellAt 1 (by omega)
  have qb2 : W23.cell? ⟨gPb, 2, none⟩ = some (.int .i64 25) := Pb.cellAt 2 (by omega)
  have qb3 : W23.cell? ⟨gPb, 3, none⟩ = some (.int .i64 26) := Pb.cellAt 3 (by omega)
  have qb4 : W23.cell? ⟨gPb, 4, none⟩ = some (.int .i64 23) := Pb.cellAt 4 (by omega)
  have qb5 : W23.cell? ⟨gPb, 5, none⟩ = some (.int .i64 28) := Pb.cellAt 5 (by omega)
  have s0 : W23.cell? ⟨g3, 0, none⟩ = some (.int .i64 2) := (J3.cell 0).trans (by rw [HTX.out]; rfl)
  have s1 : W23.cell? ⟨g3, 1, none⟩ = some (.int .i64 0) := (J3.cell 1).trans (by rw [HTX.out]; rfl)
  have s2 : W23.cell? ⟨g3, 2, none⟩ = some (.int .i64 12) := (J3.cell 2).trans (by rw [HTX.out]; rfl)
  have s3 : W23.cell? ⟨g3, 3, none⟩ = some (.int .i64 0) := (J3.cell 3).trans (by rw [HTX.out]; rfl)
  have s4 : W23.cell? ⟨g3, 4, none⟩ = some (.int .i64 1) := (J3.cell 4).trans (by rw [HTX.out]; rfl)
  have s5 : W23.cell? ⟨g3, 5, none⟩ = some (.int .i64 0) := (J3.cell 5).trans (by rw [HTX.out]; rfl)
  have HBA := Lib.hid Pa
  have HBB := Lib.hid Pb
  have HBC := Lib.hid Pc
  clear Pa Pb Pc
  have HPB : Hid (∀ w, RA pasCells 6 w w.heap.size (some ⟨gPb, 0, none⟩) 2 cPb exB → Calls Try.prog 18 #[.slice (some ⟨gPb, 0, none⟩) 2 cPb] w fun e w' => e = .returned (.bool true) ∧ Below w.heap.size w w') := Lib.hid (fun w h => by rw [← ev_prB]; exact proper_any exB _ 2 cPb w h)
  have HPQ : Hid (∀ (w : World) (g : Nat), Blk w g 47 #[.int .i64 1, .int .i64 2, .int .i64 71, .int .i64 72, .int .i64 69, .int .i64 74, .int .i64 1, .int .i64 2, .int .i64 25, .int .i64 26, .int .i64 23, .int .i64 28] → Calls Try.prog 18 #[.slice (some ⟨g, 0, none⟩) 2 2] w fun e w' => e = .returned (.bool false) ∧ Below w.heap.size w w') := Lib.hid (fun w g J => by rw [← ev_prR]; exact proper_any [⟨1, 2, ⟨71, 72⟩, ⟨69, 74⟩⟩, ⟨1, 2, ⟨25, 26⟩, ⟨23, 28⟩⟩] _ 2 2 w (RA.two rfl rfl J))
  have HS1 : Hid (∀ (w : World) (g : Nat), Blk w g 27 X1 → Calls Try.prog 14 #[.slice (some ⟨g, 0, none⟩) 1 1] w fun e w' => e = .returned (.bool true) ∧ Below w.heap.size w w') := Lib.hid (fun w g J => by rw [← ev_sats1]; exact validSats_any [exSat 1] _ 1 1 w (RA.one rfl (by rw [← HX1.out]; exact J)))
  have HS2 : Hid (∀ (w : World) (g : Nat), Blk w g 27 (X1.toList ++ X1.toList).toArray → Calls Try.prog 14 #[.slice (some ⟨g, 0, none⟩) 2 2] w fun e w' => e = .returned (.bool false) ∧ Below w.heap.size w w') := Lib.hid (fun w g J => by rw [← ev_sats2]; exact validSats_any [exSat 1, exSat 1] _ 2 2 w (RA.two rfl rfl (by rw [HX1.out] at J; exact J)))
  have HT1 : Hid (∀ (w : World) (g : Nat), Blk w g 31 #[.int .i64 2, .int .i64 0, .int .i64 12, .int .i64 0, .int .i64 1, .int .i64 0] → Calls Try.prog 16 #[.slice (some ⟨g, 0, none⟩) 1 1] w fun e w' => e = .returned (.bool true) ∧ Below w.heap.size w w') := Lib.hid (fun w g J => by rw [← ev_stns1]; exact validStns_any [exStn] _ 1 1 w (RA.one rfl J))
  have HT2 : Hid (∀ (w : World) (g : Nat), Blk w g 31 #[.int .i64 2, .int .i64 0, .int .i64 12, .int .i64 0, .int .i64 1, .int .i64 0, .int .i64 2, .int .i64 0, .int .i64 12, .int .i64 0, .int .i64 1, .int .i64 0] → Calls Try.prog 16 #[.slice (some ⟨g, 0, none⟩) 2 2] w fun e w' => e = .returned (.bool false) ∧ Below w.heap.size w w') := Lib.hid (fun w g J => by rw [← ev_stns2]; exact validStns_any [exStn, exStn] _ 2 2 w (RA.two rfl rfl J))
  go_upto_region 24 with (fail)
  simp only [List.append]
  refine wp_region_obl 71 (fun ix vals v w1 => match ix with | 0 => v = .agg X0 | 1 => v = .slice (some ⟨gPa, 0, none⟩) 2 cPa | 2 => v = .pointer (some ⟨gPa, 0, none⟩) | 3 => v = .agg #[.int .i64 1, .int .i64 2, .int .i64 24, .int .i64 27, .int .i64 24, .int .i64 27] | 4 => v = .int .i64 15 | 5 => v = .bool true | 6 => v = .bool true | 7 => v = .agg X3 | 8 => v = .slice (some ⟨gPc, 0, none⟩) 2 cPc | 9 => v = .pointer (some ⟨gPc, 0, none⟩) | 10 => v = .agg #[.int .i64 1, .int .i64 2, .int .i64 0, .int .i64 0, .int .i64 21, .int .i64 30] | 11 => v = .int .i64 0 | 12 => v = .bool true | 13 => v = .bool true | 14 => v = .bool true | 15 => v = .slice (some ⟨gPb, 0, none⟩) 2 cPb | 16 => v = .bool true | 17 => v = .bool true | 18 => v = .bool true | 19 => v = .slice (some ⟨gPb, 0, none⟩) 2 cPb | 20 => v = .pointer (some ⟨gPb, 6, none⟩) | 21 => v = .agg #[.int .i64 1, .int .i64 2, .int .i64 71, .int .i64 72, .int .i64 69, .int .i64 74] | 22 => v = .slice (some ⟨gPb, 0, none⟩) 2 cPb | 23 => v = .pointer (some ⟨gPb, 0, none⟩) | 24 => v = .agg #[.int .i64 1, .int .i64 2, .int .i64 25, .int .i64 26, .int .i64 23, .int .i64 28] | 25 => ∃ g, v = .slice (some ⟨g, 0, none⟩) 2 2 ∧ Blk w1 g 47 #[.int .i64 1, .int .i64 2, .int .i64 71, .int .i64 72, .int .i64 69, .int .i64 74, .int .i64 1, .int .i64 2, .int .i64 25, .int .i64 26, .int .i64 23, .int .i64 28] | 26 => v = .bool false | 27 => v = .bool true | 28 => v = .bool true | 29 => v = .bool true | 30 => v = .agg X1 | 31 => v = .bool true | 32 => v = .bool true | 33 => v = .bool true | 34 => v = .agg #[.int .i64 0, .int .i64 0, .int .i64 0, .int .i64 0, .int .i64 0, .int .i64 0, .int .i64 0, .int .i64 0, .int .i64 0, .int .i64 0, .int .i64 0, .int .i64 0, .int .i64 0, .int .i64 0, .int .i64 0, .int .i64 0, .int .i64 0, .int .i64 0, .int .i64 0, .int .i64 0, .int .i64 0] | 35 => v = .bool false | 36 => v = .bool true | 37 => v = .bool true | 38 => v = .bool true | 39 => v = .agg X1 | 40 => ∃ g, v = .slice (some ⟨g, 0, none⟩) 1 1 ∧ Blk w1 g 27 X1 | 41 => v = .bool true | 42 => v = .bool true | 43 => v = .bool true | 44 => v = .agg X1 | 45 => v = .agg X1 | 46 => ∃ g, v = .slice (some ⟨g, 0, none⟩) 2 2 ∧ Blk w1 g 27 (X1.toList ++ X1.toList).toArray | 47 => v = .bool false | 48 => v = .bool true | 49 => v = .bool true | 50 => v = .bool true | 51 => v = .agg #[.int .i64 2, .int .i64 0, .int .i64 12, .int .i64 0, .int .i64 1, .int .i64 0] | 52 => v = .bool true | 53 => v = .bool true | 54 => v = .bool true | 55 => v = .agg #[.int .i64 0, .int .i64 0, .int .i64 0, .int .i64 0, .int .i64 0, .int .i64 0] | 56 => v = .bool false | 57 => v = .bool true | 58 => v = .bool true | 59 => v = .bool true | 60 => v = .agg #[.int .i64 2, .int .i64 0, .int .i64 12, .int .i64 0, .int .i64 1, .int .i64 0] | 61 => ∃ g, v = .slice (some ⟨g, 0, none⟩) 1 1 ∧ Blk w1 g 31 #[.int .i64 2, .int .i64 0, .int .i64 12, .int .i64 0, .int .i64 1, .int .i64 0] | 62 => v = .bool true | 63 => v = .bool true | 64 => v = .bool true | 65 => v = .agg #[.int .i64 2, .int .i64 0, .int .i64 12, .int .i64 0, .int .i64 1, .int .i64 0] | 66 => v = .agg #[.int .i64 2, .int .i64 0, .int .i64 12, .int .i64 0, .int .i64 1, .int .i64 0] | 67 => ∃ g, v = .slice (some ⟨g, 0, none⟩) 2 2 ∧ Blk w1 g 31 #[.int .i64 2, .int .i64 0, .int .i64 12, .int .i64 0, .int .i64 1, .int .i64 0, .int .i64 2, .int .i64 0, .int .i64 12, .int .i64 0, .int .i64 1, .int .i64 0] | 68 => v = .bool false | 69 => v = .bool true | _ => v = .bool true) (by kernel_rfl) (by kernel_rfl) ?_ ?_ ?_ ?_
  · intro ix vals v w1 w2 hi hr hx
    match ix, hr with
    | 0, hr => exact hr
    | 1, hr => exact hr
    | 2, hr => exact hr
    | 3, hr => exact hr
    | 4, hr => exact hr
    | 5, hr => exact hr
    | 6, hr => exact hr
    | 7, hr => exact hr
    | 8, hr => exact hr
    | 9, hr => exact hr
    | 10, hr => exact hr
    | 11, hr => exact hr
    | 12, hr => exact hr
    | 13, hr => exact hr
    | 14, hr => exact hr
    | 15, hr => exact hr
    | 16, hr => exact hr
    | 17, hr => exact hr
    | 18, hr => exact hr
    | 19, hr => exact hr
    | 20, hr => exact hr
    | 21, hr => exact hr
    | 22, hr => exact hr
    | 23, hr => exact hr
    | 24, hr => exact hr
    | 25, hr => obtain ⟨g, h1, h2⟩ := hr; exact ⟨g, h1, h2.ext hx⟩
    | 26, hr => exact hr
    | 27, hr => exact hr
    | 28, hr => exact hr
    | 29, hr => exact hr
    | 30, hr => exact hr
    | 31, hr => exact hr
    | 32, hr => exact hr
    | 33, hr => exact hr
    | 34, hr => exact hr
    | 35, hr => exact hr
    | 36, hr => exact hr
    | 37, hr => exact hr
    | 38, hr => exact hr
    | 39, hr => exact hr
    | 40, hr => obtain ⟨g, h1, h2⟩ := hr; exact ⟨g, h1, h2.ext hx⟩
    | 41, hr => exact hr
    | 42, hr => exact hr
    | 43, hr => exact hr
    | 44, hr => exact hr
    | 45, hr => exact hr
    | 46, hr => obtain ⟨g, h1, h2⟩ := hr; exact ⟨g, h1, h2.ext hx⟩
    | 47, hr => exact hr
    | 48, hr => exact hr
    | 49, hr => exact hr
    | 50, hr => exact hr
    | 51, hr => exact hr
    | 52, hr => exact hr
    | 53, hr => exact hr
    | 54, hr => exact hr
    | 55, hr => exact hr
    | 56, hr => exact hr
    | 57, hr => exact hr
    | 58, hr => exact hr
    | 59, hr => exact hr
    | 60, hr => exact hr
    | 61, hr => obtain ⟨g, h1, h2⟩ := hr; exact ⟨g, h1, h2.ext hx⟩
    | 62, hr => exact hr
    | 63, hr => exact hr
    | 64, hr => exact hr
    | 65, hr => exact hr
    | 66, hr => exact hr
    | 67, hr => obtain ⟨g, h1, h2⟩ := hr; exact ⟨g, h1, h2.ext hx⟩
    | 68, hr => exact hr
    | 69, hr => exact hr
    | (kx + 70), hr => exact hr
  · intro ix vals vals_ v w1 hi hv hr
    exact hr
  · refine obls_ofT [some 197, some 198, some 199, some 200, some 201, some 202, some 203, some 204, some 205, some 206, some 207, some 208, some 209, some 210, some 211, some 212, some 213, some 214, some 215, some 216, some 217, some 218, some 219, some 220, some 221, some 222, some 223, some 224, some 225, some 226, some 227, some 228, some 229, some 230, some 231, some 232, some 233, some 234, some 235, some 236, some 237, some 238, some 239, some 240, some 241, some 242, some 243, some 244, some 245, some 246, some 247, some 248, some 249, some 250, some 251, some 252, some 253, some 254, some 255, some 256, some 257, some 258, some 259, some 260, some 261, some 262, some 263, some 264, some 265, some 266, some 267, some 0] [(10, .pointer (some ⟨g10, 0, none⟩)), (2, .pointer (some ⟨g2, 0, none⟩)), (12, .pointer (some ⟨g12, 0, none⟩)), (3, .pointer (some ⟨g3, 0, none⟩)), (14, .slice (some ⟨gPa, 0, none⟩) 2 cPa), (16, .slice (some ⟨gPb, 0, none⟩) 2 cPb), (18, .slice (some ⟨gPc, 0, none⟩) 2 cPc)] 268 (by kernel_rfl) (by kernel_rfl) ⟨by kernel_rfl, by kernel_rfl, by kernel_rfl, by kernel_rfl, by kernel_rfl, by kernel_rfl, by kernel_rfl, trivial⟩ ?_
    refine ⟨?_, ?_, ?_, ?_, ?_, ?_, ?_, ?_, ?_, ?_, ?_, ?_, ?_, ?_, ?_, ?_, ?_, ?_, ?_, ?_, ?_, ?_, ?_, ?_, ?_, ?_, ?_, ?_, ?_, ?_, ?_, ?_, ?_, ?_, ?_, ?_, ?_, ?_, ?_, ?_, ?_, ?_, ?_, ?_, ?_, ?_, ?_, ?_, ?_, ?_, ?_, ?_, ?_, ?_, ?_, ?_, ?_, ?_, ?_, ?_, ?_, ?_, ?_, ?_, ?_, ?_, ?_, ?_, ?_, ?_, ?_, trivial⟩
    · intro vals w1 hx hd
      refine .run [(10, .pointer (some ⟨g10, 0, none⟩))] { dst := some 0, op := Go.Op.load 27 (Go.Operand.const (.pointer (some ⟨g10, 0, none⟩))), type := 27, pos := "", after := #[], guard := none } 197 ⟨.out (by kernel_rfl) (by kernel_rfl), trivial⟩ (by kernel_rfl) (by kernel_rfl) (by kernel_rfl) rfl rfl rfl ?_
      clear hd
      refine wpList_load_st rfl 27 _ rfl g10 0 rfl X0 X0.toList (by simp) _ (Blk.range (J10.ext hx.undrew) _ rfl) Try.underlying27 rfl (by rw [Array.length_toList, HZ0.out]; exact sat_size) ?_
      go_wp2
      exact ⟨rfl, Ext.refl _, rfl⟩
    · intro vals w1 hx hd
      refine .run [(14, .slice (some ⟨gPa, 0, none⟩) 2 cPa)] { dst := some 0, op := Go.Op.move (Go.Operand.const (.slice (some ⟨gPa, 0, none⟩) 2 cPa)), type := 32, pos := "", after := #[], guard := none } 198 ⟨.out (by kernel_rfl) (by kernel_rfl), trivial⟩ (by kernel_rfl) (by kernel_rfl) (by kernel_rfl) rfl rfl rfl ?_
      clear hd
      go_wp2
      exact ⟨rfl, Ext.refl _, rfl⟩
    · intro vals w1 hx hd
      have e1 : vals 1 = .slice (some ⟨gPa, 0, none⟩) 2 cPa := hd 1 (by decide)
      refine .run [(198, .slice (some ⟨gPa, 0, none⟩) 2 cPa)] { dst := some 0, op := Go.Op.indexAddr 32 (Go.Operand.const (.slice (some ⟨gPa, 0, none⟩) 2 cPa)) (Go.Operand.const (Go.Value.int Go.IntKind.i64 0)), type := 0, pos := "", after := #[], guard := none } 199 ⟨.inn 1 (by kernel_rfl) e1, trivial⟩ (by kernel_rfl) (by kernel_rfl) (by kernel_rfl) rfl rfl rfl ?_
      clear hd e1
      go_wp2
      exact ⟨rfl, Ext.refl _, rfl⟩
    · intro vals w1 hx hd
      have e2 : vals 2 = .pointer (some ⟨gPa, 0, none⟩) := hd 2 (by decide)
      refine .run [(199, .pointer (some ⟨gPa, 0, none⟩))] { dst := some 0, op := Go.Op.load 47 (Go.Operand.const (.pointer (some ⟨gPa, 0, none⟩))), type := 47, pos := "", after := #[], guard := none } 200 ⟨.inn 2 (by kernel_rfl) e2, trivial⟩ (by kernel_rfl) (by kernel_rfl) (by kernel_rfl) rfl rfl rfl ?_
      clear hd e2
      have qa0 := ext_cell hx qa0
      have qa1 := ext_cell hx qa1
      have qa2 := ext_cell hx qa2
      have qa3 := ext_cell hx qa3
      have qa4 := ext_cell hx qa4
      have qa5 := ext_cell hx qa5
      go_wp2
      exact ⟨rfl, Ext.refl _, rfl⟩
    · intro vals w1 hx hd
      have e0 : vals 0 = .agg X0 := hd 0 (by decide)
      have e3 : vals 3 = .agg #[.int .i64 1, .int .i64 2, .int .i64 24, .int .i64 27, .int .i64 24, .int .i64 27] := hd 3 (by decide)
      refine .run [(197, .agg X0), (200, .agg #[.int .i64 1, .int .i64 2, .int .i64 24, .int .i64 27, .int .i64 24, .int .i64 27])] { dst := some 0, op := Go.Op.call { callee := Go.Callee.value (Go.Operand.func 22), args := #[(Go.Operand.const (.agg X0)), (Go.Operand.const (.agg #[.int .i64 1, .int .i64 2, .int .i64 24, .int .i64 27, .int .i64 24, .int .i64 27]))], argTypes := #[27, 47] }, type := 3, pos := "", after := #[], guard := none } 201 ⟨.inn 0 (by kernel_rfl) e0, .inn 3 (by kernel_rfl) e3, trivial⟩ (by kernel_rfl) (by kernel_rfl) (by kernel_rfl) rfl rfl rfl ?_
      clear hd e0 e3
      go_wp2_with fail
      refine (HN0.out _).mono ?_
      rintro e w2 ⟨rfl, hb2⟩
      go_wp2
      exact ⟨rfl, hb2, rfl⟩
    · intro vals w1 hx hd
      have e4 : vals 4 = .int .i64 15 := hd 4 (by decide)
      refine .run [(201, .int .i64 15)] { dst := some 0, op := Go.Op.binOp Go.BinOp.eql 3 (Go.Operand.const (.int .i64 15)) (Go.Operand.const (Go.Value.int Go.IntKind.i64 15)) 3, type := 4, pos := "", after := #[], guard := none } 202 ⟨.inn 4 (by kernel_rfl) e4, trivial⟩ (by kernel_rfl) (by kernel_rfl) (by kernel_rfl) rfl rfl rfl ?_
      clear hd e4
      go_wp2
      exact ⟨rfl, Ext.refl _, rfl⟩
    · intro vals w1 hx hd
      have e5 : vals 5 = .bool true := hd 5 (by decide)
      refine .run [(202, .bool true)] { dst := some 0, op := Go.Op.move (Go.Operand.const (.bool true)), type := 4, pos := "", after := #[], guard := none } 203 ⟨.inn 5 (by kernel_rfl) e5, trivial⟩ (by kernel_rfl) (by kernel_rfl) (by kernel_rfl) rfl rfl rfl ?_
      clear hd e5
      go_wp2
      exact ⟨rfl, Ext.refl _, rfl⟩
    · intro vals w1 hx hd
      have e6 : vals 6 = .bool true := hd 6 (by decide)
      refine .run [(2, .pointer (some ⟨g2, 0, none⟩)), (203, .bool true)] { dst := some 0, op := Go.Op.load 27 (Go.Operand.const (.pointer (some ⟨g2, 0, none⟩))), type := 27, pos := "", after := #[], guard := none } 204 ⟨.out (by kernel_rfl) (by kernel_rfl), .inn 6 (by kernel_rfl) e6, trivial⟩ (by kernel_rfl) (by kernel_rfl) (by kernel_rfl) rfl rfl rfl ?_
      clear hd e6
      refine wpList_load_stg rfl 27 _ rfl g2 0 rfl X3 X3.toList (by simp) _ (Blk.range (J2.ext hx.undrew) _ rfl) Try.underlying27 rfl (by rw [Array.length_toList, HZ3.out]; exact sat_size) ?_
      go_wp2
      exact ⟨rfl, Ext.refl _, rfl⟩
    · intro vals w1 hx hd
      have e6 : vals 6 = .bool true := hd 6 (by decide)
      refine .run [(18, .slice (some ⟨gPc, 0, none⟩) 2 cPc), (203, .bool true)] { dst := some 0, op := Go.Op.move (Go.Operand.const (.slice (some ⟨gPc, 0, none⟩) 2 cPc)), type := 32, pos := "", after := #[], guard := none } 205 ⟨.out (by kernel_rfl) (by kernel_rfl), .inn 6 (by kernel_rfl) e6, trivial⟩ (by kernel_rfl) (by kernel_rfl) (by kernel_rfl) rfl rfl rfl ?_
      clear hd e6
      go_wp2
      exact ⟨rfl, Ext.refl _, rfl⟩
    · intro vals w1 hx hd
      have e8 : vals 8 = .slice (some ⟨gPc, 0, none⟩) 2 cPc := hd 8 (by decide)
      have e6 : vals 6 = .bool true := hd 6 (by decide)
      refine .run [(205, .slice (some ⟨gPc, 0, none⟩) 2 cPc), (203, .bool true)] { dst := some 0, op := Go.Op.indexAddr 32 (Go.Operand.const (.slice (some ⟨gPc, 0, none⟩) 2 cPc)) (Go.Operand.const (Go.Value.int Go.IntKind.i64 0)), type := 0, pos := "", after := #[], guard := none } 206 ⟨.inn 8 (by kernel_rfl) e8, .inn 6 (by kernel_rfl) e6, trivial⟩ (by kernel_rfl) (by kernel_rfl) (by kernel_rfl) rfl rfl rfl ?_
      clear hd e8 e6
      go_wp2
      exact ⟨rfl, Ext.refl _, rfl⟩
    · intro vals w1 hx hd
      have e9 : vals 9 = .pointer (some ⟨gPc, 0, none⟩) := hd 9 (by decide)
      have e6 : vals 6 = .bool true := hd 6 (by decide)
      refine .run [(206, .pointer (some ⟨gPc, 0, none⟩)), (203, .bool true)] { dst := some 0, op := Go.Op.load 47 (Go.Operand.const (.pointer (some ⟨gPc, 0, none⟩))), type := 47, pos := "", after := #[], guard := none } 207 ⟨.inn 9 (by kernel_rfl) e9, .inn 6 (by kernel_rfl) e6, trivial⟩ (by kernel_rfl) (by kernel_rfl) (by kernel_rfl) rfl rfl rfl ?_
      clear hd e9 e6
      have qc0 := ext_cell hx qc0
      have qc1 := ext_cell hx qc1
      have qc2 := ext_cell hx qc2
      have qc3 := ext_cell hx qc3
      have qc4 := ext_cell hx qc4
      have qc5 := ext_cell hx qc5
      go_wp2
      exact ⟨rfl, Ext.refl _, rfl⟩
    · intro vals w1 hx hd
      have e7 : vals 7 = .agg X3 := hd 7 (by decide)
      have e10 : vals 10 = .agg #[.int .i64 1, .int .i64 2, .int .i64 0, .int .i64 0, .int .i64 21, .int .i64 30] := hd 10 (by decide)
      have e6 : vals 6 = .bool true := hd 6 (by decide)
      refine .run [(204, .agg X3), (207, .agg #[.int .i64 1, .int .i64 2, .int .i64 0, .int .i64 0, .int .i64 21, .int .i64 30]), (203, .bool true)] { dst := some 0, op := Go.Op.call { callee := Go.Callee.value (Go.Operand.func 22), args := #[(Go.Operand.const (.agg X3)), (Go.Operand.const (.agg #[.int .i64 1, .int .i64 2, .int .i64 0, .int .i64 0, .int .i64 21, .int .i64 30]))], argTypes := #[27, 47] }, type := 3, pos := "", after := #[], guard := none } 208 ⟨.inn 7 (by kernel_rfl) e7, .inn 10 (by kernel_rfl) e10, .inn 6 (by kernel_rfl) e6, trivial⟩ (by kernel_rfl) (by kernel_rfl) (by kernel_rfl) rfl rfl rfl ?_
      clear hd e7 e10 e6
      go_wp2_with fail
      refine (HN3.out _).mono ?_
      rintro e w2 ⟨rfl, hb2⟩
      go_wp2
      exact ⟨rfl, hb2, rfl⟩
    · intro vals w1 hx hd
      have e11 : vals 11 = .int .i64 0 := hd 11 (by decide)
      have e6 : vals 6 = .bool true := hd 6 (by decide)
      refine .run [(208, .int .i64 0), (203, .bool true)] { dst := some 0, op := Go.Op.binOp Go.BinOp.eql 3 (Go.Operand.const (.int .i64 0)) (Go.Operand.const (Go.Value.int Go.IntKind.i64 0)) 3, type := 4, pos := "", after := #[], guard := none } 209 ⟨.inn 11 (by kernel_rfl) e11, .inn 6 (by kernel_rfl) e6, trivial⟩ (by kernel_rfl) (by kernel_rfl) (by kernel_rfl) rfl rfl rfl ?_
      clear hd e11 e6
      go_wp2
      exact ⟨rfl, Ext.refl _, rfl⟩
    · intro vals w1 hx hd
      have e6 : vals 6 = .bool true := hd 6 (by decide)
      have e12 : vals 12 = .bool true := hd 12 (by decide)
      refine .run [(203, .bool true), (209, .bool true)] { dst := some 0, op := Go.Op.pick (Go.Operand.const (.bool true)) (Go.Operand.const (.bool true)) (Go.Operand.const (Go.Value.bool false)), type := 4, pos := "", after := #[], guard := none } 210 ⟨.inn 6 (by kernel_rfl) e6, .inn 12 (by kernel_rfl) e12, trivial⟩ (by kernel_rfl) (by kernel_rfl) (by kernel_rfl) rfl rfl rfl ?_
      clear hd e6 e12
      go_wp2
      exact ⟨rfl, Ext.refl _, rfl⟩
    · intro vals w1 hx hd
      have e13 : vals 13 = .bool true := hd 13 (by decide)
      refine .run [(210, .bool true)] { dst := some 0, op := Go.Op.move (Go.Operand.const (.bool true)), type := 4, pos := "", after := #[], guard := none } 211 ⟨.inn 13 (by kernel_rfl) e13, trivial⟩ (by kernel_rfl) (by kernel_rfl) (by kernel_rfl) rfl rfl rfl ?_
      clear hd e13
      go_wp2
      exact ⟨rfl, Ext.refl _, rfl⟩
    · intro vals w1 hx hd
      have e14 : vals 14 = .bool true := hd 14 (by decide)
      refine .run [(16, .slice (some ⟨gPb, 0, none⟩) 2 cPb), (211, .bool true)] { dst := some 0, op := Go.Op.move (Go.Operand.const (.slice (some ⟨gPb, 0, none⟩) 2 cPb)), type := 32, pos := "", after := #[], guard := none } 212 ⟨.out (by kernel_rfl) (by kernel_rfl), .inn 14 (by kernel_rfl) e14, trivial⟩ (by kernel_rfl) (by kernel_rfl) (by kernel_rfl) rfl rfl rfl ?_
      clear hd e14
      go_wp2
      exact ⟨rfl, Ext.refl _, rfl⟩
    · intro vals w1 hx hd
      have e15 : vals 15 = .slice (some ⟨gPb, 0, none⟩) 2 cPb := hd 15 (by decide)
      have e14 : vals 14 = .bool true := hd 14 (by decide)
      refine .run [(212, .slice (some ⟨gPb, 0, none⟩) 2 cPb), (211, .bool true)] { dst := some 0, op := Go.Op.call { callee := Go.Callee.value (Go.Operand.func 18), args := #[(Go.Operand.const (.slice (some ⟨gPb, 0, none⟩) 2 cPb))], argTypes := #[32] }, type := 4, pos := "", after := #[], guard := none } 213 ⟨.inn 15 (by kernel_rfl) e15, .inn 14 (by kernel_rfl) e14, trivial⟩ (by kernel_rfl) (by kernel_rfl) (by kernel_rfl) rfl rfl rfl ?_
      clear hd e15 e14
      go_wp2_with fail
      refine (HPB.out _ (RA.of_own (own_ext HBB.out hx.undrew) rfl (by omega))).mono ?_
      rintro e w2 ⟨rfl, hb2⟩
      go_wp2
      exact ⟨rfl, hb2, rfl⟩
    · intro vals w1 hx hd
      have e14 : vals 14 = .bool true := hd 14 (by decide)
      have e16 : vals 16 = .bool true := hd 16 (by decide)
      refine .run [(211, .bool true), (213, .bool true)] { dst := some 0, op := Go.Op.pick (Go.Operand.const (.bool true)) (Go.Operand.const (.bool true)) (Go.Operand.const (Go.Value.bool false)), type := 4, pos := "", after := #[], guard := none } 214 ⟨.inn 14 (by kernel_rfl) e14, .inn 16 (by kernel_rfl) e16, trivial⟩ (by kernel_rfl) (by kernel_rfl) (by kernel_rfl) rfl rfl rfl ?_
      clear hd e14 e16
      go_wp2
      exact ⟨rfl, Ext.refl _, rfl⟩
    · intro vals w1 hx hd
      have e17 : vals 17 = .bool true := hd 17 (by decide)
      refine .run [(214, .bool true)] { dst := some 0, op := Go.Op.move (Go.Operand.const (.bool true)), type := 4, pos := "", after := #[], guard := none } 215 ⟨.inn 17 (by kernel_rfl) e17, trivial⟩ (by kernel_rfl) (by kernel_rfl) (by kernel_rfl) rfl rfl rfl ?_
      clear hd e17
      go_wp2
      exact ⟨rfl, Ext.refl _, rfl⟩
    · intro vals w1 hx hd
      have e18 : vals 18 = .bool true := hd 18 (by decide)
      refine .run [(16, .slice (some ⟨gPb, 0, none⟩) 2 cPb), (215, .bool true)] { dst := some 0, op := Go.Op.move (Go.Operand.const (.slice (some ⟨gPb, 0, none⟩) 2 cPb)), type := 32, pos := "", after := #[], guard := none } 216 ⟨.out (by kernel_rfl) (by kernel_rfl), .inn 18 (by kernel_rfl) e18, trivial⟩ (by kernel_rfl) (by kernel_rfl) (by kernel_rfl) rfl rfl rfl ?_
      clear hd e18
      go_wp2
      exact ⟨rfl, Ext.refl _, rfl⟩
    · intro vals w1 hx hd
      have e19 : vals 19 = .slice (some ⟨gPb, 0, none⟩) 2 cPb := hd 19 (by decide)
      have e18 : vals 18 = .bool true := hd 18 (by decide)
      refine .run [(216, .slice (some ⟨gPb, 0, none⟩) 2 cPb), (215, .bool true)] { dst := some 0, op := Go.Op.indexAddr 32 (Go.Operand.const (.slice (some ⟨gPb, 0, none⟩) 2 cPb)) (Go.Operand.const (Go.Value.int Go.IntKind.i64 1)), type := 0, pos := "", after := #[], guard := none } 217 ⟨.inn 19 (by kernel_rfl) e19, .inn 18 (by kernel_rfl) e18, trivial⟩ (by kernel_rfl) (by kernel_rfl) (by kernel_rfl) rfl rfl rfl ?_
      clear hd e19 e18
      go_wp2
      exact ⟨rfl, Ext.refl _, rfl⟩
    · intro vals w1 hx hd
      have e20 : vals 20 = .pointer (some ⟨gPb, 6, none⟩) := hd 20 (by decide)
      have e18 : vals 18 = .bool true := hd 18 (by decide)
      refine .run [(217, .pointer (some ⟨gPb, 6, none⟩)), (215, .bool true)] { dst := some 0, op := Go.Op.load 47 (Go.Operand.const (.pointer (some ⟨gPb, 6, none⟩))), type := 47, pos := "", after := #[], guard := none } 218 ⟨.inn 20 (by kernel_rfl) e20, .inn 18 (by kernel_rfl) e18, trivial⟩ (by kernel_rfl) (by kernel_rfl) (by kernel_rfl) rfl rfl rfl ?_
      clear hd e20 e18
      have qd0 := ext_cell hx qd0
      have qd1 := ext_cell hx qd1
      have qd2 := ext_cell hx qd2
      have qd3 := ext_cell hx qd3
      have qd4 := ext_cell hx qd4
      have qd5 := ext_cell hx qd5
      go_wp2
      exact ⟨rfl, Ext.refl _, rfl⟩
    · intro vals w1 hx hd
      have e18 : vals 18 = .bool true := hd 18 (by decide)
      refine .run [(16, .slice (some ⟨gPb, 0, none⟩) 2 cPb), (215, .bool true)] { dst := some 0, op := Go.Op.move (Go.Operand.const (.slice (some ⟨gPb, 0, none⟩) 2 cPb)), type := 32, pos := "", after := #[], guard := none } 219 ⟨.out (by kernel_rfl) (by kernel_rfl), .inn 18 (by kernel_rfl) e18, trivial⟩ (by kernel_rfl) (by kernel_rfl) (by kernel_rfl) rfl rfl rfl ?_
      clear hd e18
      go_wp2
      exact ⟨rfl, Ext.refl _, rfl⟩
    · intro vals w1 hx hd
      have e22 : vals 22 = .slice (some ⟨gPb, 0, none⟩) 2 cPb := hd 22 (by decide)
      have e18 : vals 18 = .bool true := hd 18 (by decide)
      refine .run [(219, .slice (some ⟨gPb, 0, none⟩) 2 cPb), (215, .bool true)] { dst := some 0, op := Go.Op.indexAddr 32 (Go.Operand.const (.slice (some ⟨gPb, 0, none⟩) 2 cPb)) (Go.Operand.const (Go.Value.int Go.IntKind.i64 0)), type := 0, pos := "", after := #[], guard := none } 220 ⟨.inn 22 (by kernel_rfl) e22, .inn 18 (by kernel_rfl) e18, trivial⟩ (by kernel_rfl) (by kernel_rfl) (by kernel_rfl) rfl rfl rfl ?_
      clear hd e22 e18
      go_wp2
      exact ⟨rfl, Ext.refl _, rfl⟩
    · intro vals w1 hx hd
      have e23 : vals 23 = .pointer (some ⟨gPb, 0, none⟩) := hd 23 (by decide)
      have e18 : vals 18 = .bool true := hd 18 (by decide)
      refine .run [(220, .pointer (some ⟨gPb, 0, none⟩)), (215, .bool true)] { dst := some 0, op := Go.Op.load 47 (Go.Operand.const (.pointer (some ⟨gPb, 0, none⟩))), type := 47, pos := "", after := #[], guard := none } 221 ⟨.inn 23 (by kernel_rfl) e23, .inn 18 (by kernel_rfl) e18, trivial⟩ (by kernel_rfl) (by kernel_rfl) (by kernel_rfl) rfl rfl rfl ?_
      clear hd e23 e18
      have qb0 := ext_cell hx qb0
      have qb1 := ext_cell hx qb1
      have qb2 := ext_cell hx qb2
      have qb3 := ext_cell hx qb3
      have qb4 := ext_cell hx qb4
      have qb5 := ext_cell hx qb5
      go_wp2
      exact ⟨rfl, Ext.refl _, rfl⟩
    · intro vals w1 hx hd
      have e21 : vals 21 = .agg #[.int .i64 1, .int .i64 2, .int .i64 71, .int .i64 72, .int .i64 69, .int .i64 74] := hd 21 (by decide)
      have e24 : vals 24 = .agg #[.int .i64 1, .int .i64 2, .int .i64 25, .int .i64 26, .int .i64 23, .int .i64 28] := hd 24 (by decide)
      have e18 : vals 18 = .bool true := hd 18 (by decide)
      refine .run [(218, .agg #[.int .i64 1, .int .i64 2, .int .i64 71, .int .i64 72, .int .i64 69, .int .i64 74]), (221, .agg #[.int .i64 1, .int .i64 2, .int .i64 25, .int .i64 26, .int .i64 23, .int .i64 28]), (215, .bool true)] { dst := some 0, op := Go.Op.buildSlice 32 2 #[(0, (Go.Operand.const (.agg #[.int .i64 1, .int .i64 2, .int .i64 71, .int .i64 72, .int .i64 69, .int .i64 74]))), (1, (Go.Operand.const (.agg #[.int .i64 1, .int .i64 2, .int .i64 25, .int .i64 26, .int .i64 23, .int .i64 28])))], type := 32, pos := "", after := #[], guard := none } 222 ⟨.inn 21 (by kernel_rfl) e21, .inn 24 (by kernel_rfl) e24, .inn 18 (by kernel_rfl) e18, trivial⟩ (by kernel_rfl) (by kernel_rfl) (by kernel_rfl) rfl rfl rfl ?_
      clear hd e21 e24 e18
      have hz := Below.size hx.undrew
      go_wp2
      exact ⟨rfl, (by repeat (first | exact Below.refl _ _ | assumption | refine Below.drew ?_ | refine below_drewN ?_ _ | refine bl_alloc ?_ _ | refine Below.setCell ?_ (by first | (simp; done) | omega | (simp; omega)) _ | refine bl_then ?_ (by assumption))), _, rfl, Blk.new _ _ _⟩
    · intro vals w1 hx hd
      have r25 : (fun v w1 => ∃ g, v = .slice (some ⟨g, 0, none⟩) 2 2 ∧ Blk w1 g 47 #[.int .i64 1, .int .i64 2, .int .i64 71, .int .i64 72, .int .i64 69, .int .i64 74, .int .i64 1, .int .i64 2, .int .i64 25, .int .i64 26, .int .i64 23, .int .i64 28]) (vals 25) w1 := hd 25 (by decide)
      dsimp only at r25
      obtain ⟨g_, e_, j_⟩ := r25
      have e18 : vals 18 = .bool true := hd 18 (by decide)
      refine .run [(222, .slice (some ⟨g_, 0, none⟩) 2 2), (215, .bool true)] { dst := some 0, op := Go.Op.call { callee := Go.Callee.value (Go.Operand.func 18), args := #[(Go.Operand.const (.slice (some ⟨g_, 0, none⟩) 2 2))], argTypes := #[32] }, type := 4, pos := "", after := #[], guard := none } 223 ⟨.inn 25 (by kernel_rfl) e_, .inn 18 (by kernel_rfl) e18, trivial⟩ (by kernel_rfl) (by kernel_rfl) (by kernel_rfl) rfl rfl rfl ?_
      clear hd e_ e18
      go_wp2_with fail
      refine (HPQ.out _ g_ j_).mono ?_
      rintro e w2 ⟨rfl, hb2⟩
      go_wp2
      exact ⟨rfl, hb2, rfl⟩
    · intro vals w1 hx hd
      have e26 : vals 26 = .bool false := hd 26 (by decide)
      have e18 : vals 18 = .bool true := hd 18 (by decide)
      refine .run [(223, .bool false), (215, .bool true)] { dst := some 0, op := Go.Op.unOp Go.UnOp.not 4 (Go.Operand.const (.bool false)), type := 4, pos := "", after := #[], guard := none } 224 ⟨.inn 26 (by kernel_rfl) e26, .inn 18 (by kernel_rfl) e18, trivial⟩ (by kernel_rfl) (by kernel_rfl) (by kernel_rfl) rfl rfl rfl ?_
      clear hd e26 e18
      go_wp2
      exact ⟨rfl, Ext.refl _, rfl⟩
    · intro vals w1 hx hd
      have e18 : vals 18 = .bool true := hd 18 (by decide)
      have e27 : vals 27 = .bool true := hd 27 (by decide)
      refine .run [(215, .bool true), (224, .bool true)] { dst := some 0, op := Go.Op.pick (Go.Operand.const (.bool true)) (Go.Operand.const (.bool true)) (Go.Operand.const (Go.Value.bool false)), type := 4, pos := "", after := #[], guard := none } 225 ⟨.inn 18 (by kernel_rfl) e18, .inn 27 (by kernel_rfl) e27, trivial⟩ (by kernel_rfl) (by kernel_rfl) (by kernel_rfl) rfl rfl rfl ?_
      clear hd e18 e27
      go_wp2
      exact ⟨rfl, Ext.refl _, rfl⟩
    · intro vals w1 hx hd
      have e28 : vals 28 = .bool true := hd 28 (by decide)
      refine .run [(225, .bool true)] { dst := some 0, op := Go.Op.move (Go.Operand.const (.bool true)), type := 4, pos := "", after := #[], guard := none } 226 ⟨.inn 28 (by kernel_rfl) e28, trivial⟩ (by kernel_rfl) (by kernel_rfl) (by kernel_rfl) rfl rfl rfl ?_
      clear hd e28
      go_wp2
      exact ⟨rfl, Ext.refl _, rfl⟩
    · intro vals w1 hx hd
      have e29 : vals 29 = .bool true := hd 29 (by decide)
      refine .run [(12, .pointer (some ⟨g12, 0, none⟩)), (226, .bool true)] { dst := some 0, op := Go.Op.load 27 (Go.Operand.const (.pointer (some ⟨g12, 0, none⟩))), type := 27, pos := "", after := #[], guard := none } 227 ⟨.out (by kernel_rfl) (by kernel_rfl), .inn 29 (by kernel_rfl) e29, trivial⟩ (by kernel_rfl) (by kernel_rfl) (by kernel_rfl) rfl rfl rfl ?_
      clear hd e29
      refine wpList_load_stg rfl 27 _ rfl g12 0 rfl X1 X1.toList (by simp) _ (Blk.range (J12.ext hx.undrew) _ rfl) Try.underlying27 rfl (by rw [Array.length_toList, HZ1.out]; exact sat_size) ?_
      go_wp2
      exact ⟨rfl, Ext.refl _, rfl⟩
    · intro vals w1 hx hd
      have e30 : vals 30 = .agg X1 := hd 30 (by decide)
      have e29 : vals 29 = .bool true := hd 29 (by decide)
      refine .run [(227, .agg X1), (226, .bool true)] { dst := some 0, op := Go.Op.call { callee := Go.Callee.value (Go.Operand.func 20), args := #[(Go.Operand.const (.agg X1))], argTypes := #[27] }, type := 4, pos := "", after := #[], guard := none } 228 ⟨.inn 30 (by kernel_rfl) e30, .inn 29 (by kernel_rfl) e29, trivial⟩ (by kernel_rfl) (by kernel_rfl) (by kernel_rfl) rfl rfl rfl ?_
      clear hd e30 e29
      go_wp2_with fail
      refine (HVS.out _).mono ?_
      rintro e w2 ⟨rfl, hb2⟩
      go_wp2
      exact ⟨rfl, hb2, rfl⟩
    · intro vals w1 hx hd
      have e29 : vals 29 = .bool true := hd 29 (by decide)
      have e31 : vals 31 = .bool true := hd 31 (by decide)
      refine .run [(226, .bool true), (228, .bool true)] { dst := some 0, op := Go.Op.pick (Go.Operand.const (.bool true)) (Go.Operand.const (.bool true)) (Go.Operand.const (Go.Value.bool false)), type := 4, pos := "", after := #[], guard := none } 229 ⟨.inn 29 (by kernel_rfl) e29, .inn 31 (by kernel_rfl) e31, trivial⟩ (by kernel_rfl) (by kernel_rfl) (by kernel_rfl) rfl rfl rfl ?_
      clear hd e29 e31
      go_wp2
      exact ⟨rfl, Ext.refl _, rfl⟩
    · intro vals w1 hx hd
      have e32 : vals 32 = .bool true := hd 32 (by decide)
      refine .run [(229, .bool true)] { dst := some 0, op := Go.Op.move (Go.Operand.const (.bool true)), type := 4, pos := "", after := #[], guard := none } 230 ⟨.inn 32 (by kernel_rfl) e32, trivial⟩ (by kernel_rfl) (by kernel_rfl) (by kernel_rfl) rfl rfl rfl ?_
      clear hd e32
      go_wp2
      exact ⟨rfl, Ext.refl _, rfl⟩
    · intro vals w1 hx hd
      have e33 : vals 33 = .bool true := hd 33 (by decide)
      refine .run [(230, .bool true)] { dst := some 0, op := Go.Op.build 27 #[], type := 27, pos := "", after := #[], guard := none } 231 ⟨.inn 33 (by kernel_rfl) e33, trivial⟩ (by kernel_rfl) (by kernel_rfl) (by kernel_rfl) rfl rfl rfl ?_
      clear hd e33
      go_wp2
      exact ⟨rfl, Ext.refl _, rfl⟩
    · intro vals w1 hx hd
      have e34 : vals 34 = .agg #[.int .i64 0, .int .i64 0, .int .i64 0, .int .i64 0, .int .i64 0, .int .i64 0, .int .i64 0, .int .i64 0, .int .i64 0, .int .i64 0, .int .i64 0, .int .i64 0, .int .i64 0, .int .i64 0, .int .i64 0, .int .i64 0, .int .i64 0, .int .i64 0, .int .i64 0, .int .i64 0, .int .i64 0] := hd 34 (by decide)
      have e33 : vals 33 = .bool true := hd 33 (by decide)
      refine .run [(231, .agg #[.int .i64 0, .int .i64 0, .int .i64 0, .int .i64 0, .int .i64 0, .int .i64 0, .int .i64 0, .int .i64 0, .int .i64 0, .int .i64 0, .int .i64 0, .int .i64 0, .int .i64 0, .int .i64 0, .int .i64 0, .int .i64 0, .int .i64 0, .int .i64 0, .int .i64 0, .int .i64 0, .int .i64 0]), (230, .bool true)] { dst := some 0, op := Go.Op.call { callee := Go.Callee.value (Go.Operand.func 20), args := #[(Go.Operand.const (.agg #[.int .i64 0, .int .i64 0, .int .i64 0, .int .i64 0, .int .i64 0, .int .i64 0, .int .i64 0, .int .i64 0, .int .i64 0, .int .i64 0, .int .i64 0, .int .i64 0, .int .i64 0, .int .i64 0, .int .i64 0, .int .i64 0, .int .i64 0, .int .i64 0, .int .i64 0, .int .i64 0, .int .i64 0]))], argTypes := #[27] }, type := 4, pos := "", after := #[], guard := none } 232 ⟨.inn 34 (by kernel_rfl) e34, .inn 33 (by kernel_rfl) e33, trivial⟩ (by kernel_rfl) (by kernel_rfl) (by kernel_rfl) rfl rfl rfl ?_
      clear hd e34 e33
      go_wp2_with fail
      refine (HVZ.out _).mono ?_
      rintro e w2 ⟨rfl, hb2⟩
      go_wp2
      exact ⟨rfl, hb2, rfl⟩
    · intro vals w1 hx hd
      have e35 : vals 35 = .bool false := hd 35 (by decide)
      have e33 : vals 33 = .bool true := hd 33 (by decide)
      refine .run [(232, .bool false), (230, .bool true)] { dst := some 0, op := Go.Op.unOp Go.UnOp.not 4 (Go.Operand.const (.bool false)), type := 4, pos := "", after := #[], guard := none } 233 ⟨.inn 35 (by kernel_rfl) e35, .inn 33 (by kernel_rfl) e33, trivial⟩ (by kernel_rfl) (by kernel_rfl) (by kernel_rfl) rfl rfl rfl ?_
      clear hd e35 e33
      go_wp2
      exact ⟨rfl, Ext.refl _, rfl⟩
    · intro vals w1 hx hd
      have e33 : vals 33 = .bool true := hd 33 (by decide)
      have e36 : vals 36 = .bool true := hd 36 (by decide)
      refine .run [(230, .bool true), (233, .bool true)] { dst := some 0, op := Go.Op.pick (Go.Operand.const (.bool true)) (Go.Operand.const (.bool true)) (Go.Operand.const (Go.Value.bool false)), type := 4, pos := "", after := #[], guard := none } 234 ⟨.inn 33 (by kernel_rfl) e33, .inn 36 (by kernel_rfl) e36, trivial⟩ (by kernel_rfl) (by kernel_rfl) (by kernel_rfl) rfl rfl rfl ?_
      clear hd e33 e36
      go_wp2
      exact ⟨rfl, Ext.refl _, rfl⟩
    · intro vals w1 hx hd
      have e37 : vals 37 = .bool true := hd 37 (by decide)
      refine .run [(234, .bool true)] { dst := some 0, op := Go.Op.move (Go.Operand.const (.bool true)), type := 4, pos := "", after := #[], guard := none } 235 ⟨.inn 37 (by kernel_rfl) e37, trivial⟩ (by kernel_rfl) (by kernel_rfl) (by kernel_rfl) rfl rfl rfl ?_
      clear hd e37
      go_wp2
      exact ⟨rfl, Ext.refl _, rfl⟩
    · intro vals w1 hx hd
      have e38 : vals 38 = .bool true := hd 38 (by decide)
      refine .run [(12, .pointer (some ⟨g12, 0, none⟩)), (235, .bool true)] { dst := some 0, op := Go.Op.load 27 (Go.Operand.const (.pointer (some ⟨g12, 0, none⟩))), type := 27, pos := "", after := #[], guard := none } 236 ⟨.out (by kernel_rfl) (by kernel_rfl), .inn 38 (by kernel_rfl) e38, trivial⟩ (by kernel_rfl) (by kernel_rfl) (by kernel_rfl) rfl rfl rfl ?_
      clear hd e38
      refine wpList_load_stg rfl 27 _ rfl g12 0 rfl X1 X1.toList (by simp) _ (Blk.range (J12.ext hx.undrew) _ rfl) Try.underlying27 rfl (by rw [Array.length_toList, HZ1.out]; exact sat_size) ?_
      go_wp2
      exact ⟨rfl, Ext.refl _, rfl⟩
    · intro vals w1 hx hd
      have e39 : vals 39 = .agg X1 := hd 39 (by decide)
      have e38 : vals 38 = .bool true := hd 38 (by decide)
      refine .run [(236, .agg X1), (235, .bool true)] { dst := some 0, op := Go.Op.buildSlice 36 1 #[(0, (Go.Operand.const (.agg X1)))], type := 36, pos := "", after := #[], guard := none } 237 ⟨.inn 39 (by kernel_rfl) e39, .inn 38 (by kernel_rfl) e38, trivial⟩ (by kernel_rfl) (by kernel_rfl) (by kernel_rfl) rfl rfl rfl ?_
      clear hd e39 e38
      have hz := Below.size hx.undrew
      refine wpList_buildOneG rfl 36 27 _ rfl X1 rfl Try.underlying36 21 info_sat2 HZ1.out (by omega) (by omega) ?_
      go_wp2
      exact ⟨rfl, (by repeat (first | exact Below.refl _ _ | assumption | refine Below.drew ?_ | refine below_drewN ?_ _ | refine bl_alloc ?_ _ | refine Below.setCell ?_ (by first | (simp; done) | omega | (simp; omega)) _ | refine bl_then ?_ (by assumption))), _, rfl, Blk.new _ _ _⟩
    · intro vals w1 hx hd
      have r40 : (fun v w1 => ∃ g, v = .slice (some ⟨g, 0, none⟩) 1 1 ∧ Blk w1 g 27 X1) (vals 40) w1 := hd 40 (by decide)
      dsimp only at r40
      obtain ⟨g_, e_, j_⟩ := r40
      have e38 : vals 38 = .bool true := hd 38 (by decide)
      refine .run [(237, .slice (some ⟨g_, 0, none⟩) 1 1), (235, .bool true)] { dst := some 0, op := Go.Op.call { callee := Go.Callee.value (Go.Operand.func 14), args := #[(Go.Operand.const (.slice (some ⟨g_, 0, none⟩) 1 1))], argTypes := #[36] }, type := 4, pos := "", after := #[], guard := none } 238 ⟨.inn 40 (by kernel_rfl) e_, .inn 38 (by kernel_rfl) e38, trivial⟩ (by kernel_rfl) (by kernel_rfl) (by kernel_rfl) rfl rfl rfl ?_
      clear hd e_ e38
      go_wp2_with fail
      refine (HS1.out _ g_ j_).mono ?_
      rintro e w2 ⟨rfl, hb2⟩
      go_wp2
      exact ⟨rfl, hb2, rfl⟩
    · intro vals w1 hx hd
      have e38 : vals 38 = .bool true := hd 38 (by decide)
      have e41 : vals 41 = .bool true := hd 41 (by decide)
      refine .run [(235, .bool true), (238, .bool true)] { dst := some 0, op := Go.Op.pick (Go.Operand.const (.bool true)) (Go.Operand.const (.bool true)) (Go.Operand.const (Go.Value.bool false)), type := 4, pos := "", after := #[], guard := none } 239 ⟨.inn 38 (by kernel_rfl) e38, .inn 41 (by kernel_rfl) e41, trivial⟩ (by kernel_rfl) (by kernel_rfl) (by kernel_rfl) rfl rfl rfl ?_
      clear hd e38 e41
      go_wp2
      exact ⟨rfl, Ext.refl _, rfl⟩
    · intro vals w1 hx hd
      have e42 : vals 42 = .bool true := hd 42 (by decide)
      refine .run [(239, .bool true)] { dst := some 0, op := Go.Op.move (Go.Operand.const (.bool true)), type := 4, pos := "", after := #[], guard := none } 240 ⟨.inn 42 (by kernel_rfl) e42, trivial⟩ (by kernel_rfl) (by kernel_rfl) (by kernel_rfl) rfl rfl rfl ?_
      clear hd e42
      go_wp2
      exact ⟨rfl, Ext.refl _, rfl⟩
    · intro vals w1 hx hd
      have e43 : vals 43 = .bool true := hd 43 (by decide)
      refine .run [(12, .pointer (some ⟨g12, 0, none⟩)), (240, .bool true)] { dst := some 0, op := Go.Op.load 27 (Go.Operand.const (.pointer (some ⟨g12, 0, none⟩))), type := 27, pos := "", after := #[], guard := none } 241 ⟨.out (by kernel_rfl) (by kernel_rfl), .inn 43 (by kernel_rfl) e43, trivial⟩ (by kernel_rfl) (by kernel_rfl) (by kernel_rfl) rfl rfl rfl ?_
      clear hd e43
      refine wpList_load_stg rfl 27 _ rfl g12 0 rfl X1 X1.toList (by simp) _ (Blk.range (J12.ext hx.undrew) _ rfl) Try.underlying27 rfl (by rw [Array.length_toList, HZ1.out]; exact sat_size) ?_
      go_wp2
      exact ⟨rfl, Ext.refl _, rfl⟩
    · intro vals w1 hx hd
      have e43 : vals 43 = .bool true := hd 43 (by decide)
      refine .run [(12, .pointer (some ⟨g12, 0, none⟩)), (240, .bool true)] { dst := some 0, op := Go.Op.load 27 (Go.Operand.const (.pointer (some ⟨g12, 0, none⟩))), type := 27, pos := "", after := #[], guard := none } 242 ⟨.out (by kernel_rfl) (by kernel_rfl), .inn 43 (by kernel_rfl) e43, trivial⟩ (by kernel_rfl) (by kernel_rfl) (by kernel_rfl) rfl rfl rfl ?_
      clear hd e43
      refine wpList_load_stg rfl 27 _ rfl g12 0 rfl X1 X1.toList (by simp) _ (Blk.range (J12.ext hx.undrew) _ rfl) Try.underlying27 rfl (by rw [Array.length_toList, HZ1.out]; exact sat_size) ?_
      go_wp2
      exact ⟨rfl, Ext.refl _, rfl⟩
    · intro vals w1 hx hd
      have e44 : vals 44 = .agg X1 := hd 44 (by decide)
      have e45 : vals 45 = .agg X1 := hd 45 (by decide)
      have e43 : vals 43 = .bool true := hd 43 (by decide)
      refine .run [(241, .agg X1), (242, .agg X1), (240, .bool true)] { dst := some 0, op := Go.Op.buildSlice 36 2 #[(0, (Go.Operand.const (.agg X1))), (1, (Go.Operand.const (.agg X1)))], type := 36, pos := "", after := #[], guard := none } 243 ⟨.inn 44 (by kernel_rfl) e44, .inn 45 (by kernel_rfl) e45, .inn 43 (by kernel_rfl) e43, trivial⟩ (by kernel_rfl) (by kernel_rfl) (by kernel_rfl) rfl rfl rfl ?_
      clear hd e44 e45 e43
      have hz := Below.size hx.undrew
      refine wpList_buildTwoG rfl 36 27 _ _ rfl X1 X1 rfl rfl Try.underlying36 21 info_sat2 HZ1.out HZ1.out (by omega) (by omega) ?_
      go_wp2
      exact ⟨rfl, (by repeat (first | exact Below.refl _ _ | assumption | refine Below.drew ?_ | refine below_drewN ?_ _ | refine bl_alloc ?_ _ | refine Below.setCell ?_ (by first | (simp; done) | omega | (simp; omega)) _ | refine bl_then ?_ (by assumption))), _, rfl, Blk.new _ _ _⟩
    · intro vals w1 hx hd
      have r46 : (fun v w1 => ∃ g, v = .slice (some ⟨g, 0, none⟩) 2 2 ∧ Blk w1 g 27 (X1.toList ++ X1.toList).toArray) (vals 46) w1 := hd 46 (by decide)
      dsimp only at r46
      obtain ⟨g_, e_, j_⟩ := r46
      have e43 : vals 43 = .bool true := hd 43 (by decide)
      refine .run [(243, .slice (some ⟨g_, 0, none⟩) 2 2), (240, .bool true)] { dst := some 0, op := Go.Op.call { callee := Go.Callee.value (Go.Operand.func 14), args := #[(Go.Operand.const (.slice (some ⟨g_, 0, none⟩) 2 2))], argTypes := #[36] }, type := 4, pos := "", after := #[], guard := none } 244 ⟨.inn 46 (by kernel_rfl) e_, .inn 43 (by kernel_rfl) e43, trivial⟩ (by kernel_rfl) (by kernel_rfl) (by kernel_rfl) rfl rfl rfl ?_
      clear hd e_ e43
      go_wp2_with fail
      refine (HS2.out _ g_ j_).mono ?_
      rintro e w2 ⟨rfl, hb2⟩
      go_wp2
      exact ⟨rfl, hb2, rfl⟩
    · intro vals w1 hx hd
      have e47 : vals 47 = .bool false := hd 47 (by decide)
      have e43 : vals 43 = .bool true := hd 43 (by decide)
      refine .run [(244, .bool false), (240, .bool true)] { dst := some 0, op := Go.Op.unOp Go.UnOp.not 4 (Go.Operand.const (.bool false)), type := 4, pos := "", after := #[], guard := none } 245 ⟨.inn 47 (by kernel_rfl) e47, .inn 43 (by kernel_rfl) e43, trivial⟩ (by kernel_rfl) (by kernel_rfl) (by kernel_rfl) rfl rfl rfl ?_
      clear hd e47 e43
      go_wp2
      exact ⟨rfl, Ext.refl _, rfl⟩
    · intro vals w1 hx hd
      have e43 : vals 43 = .bool true := hd 43 (by decide)
      have e48 : vals 48 = .bool true := hd 48 (by decide)
      refine .run [(240, .bool true), (245, .bool true)] { dst := some 0, op := Go.Op.pick (Go.Operand.const (.bool true)) (Go.Operand.const (.bool true)) (Go.Operand.const (Go.Value.bool false)), type := 4, pos := "", after := #[], guard := none } 246 ⟨.inn 43 (by kernel_rfl) e43, .inn 48 (by kernel_rfl) e48, trivial⟩ (by kernel_rfl) (by kernel_rfl) (by kernel_rfl) rfl rfl rfl ?_
      clear hd e43 e48
      go_wp2
      exact ⟨rfl, Ext.refl _, rfl⟩
    · intro vals w1 hx hd
      have e49 : vals 49 = .bool true := hd 49 (by decide)
      refine .run [(246, .bool true)] { dst := some 0, op := Go.Op.move (Go.Operand.const (.bool true)), type := 4, pos := "", after := #[], guard := none } 247 ⟨.inn 49 (by kernel_rfl) e49, trivial⟩ (by kernel_rfl) (by kernel_rfl) (by kernel_rfl) rfl rfl rfl ?_
      clear hd e49
      go_wp2
      exact ⟨rfl, Ext.refl _, rfl⟩
    · intro vals w1 hx hd
      have e50 : vals 50 = .bool true := hd 50 (by decide)
      refine .run [(3, .pointer (some ⟨g3, 0, none⟩)), (247, .bool true)] { dst := some 0, op := Go.Op.load 31 (Go.Operand.const (.pointer (some ⟨g3, 0, none⟩))), type := 31, pos := "", after := #[], guard := none } 248 ⟨.out (by kernel_rfl) (by kernel_rfl), .inn 50 (by kernel_rfl) e50, trivial⟩ (by kernel_rfl) (by kernel_rfl) (by kernel_rfl) rfl rfl rfl ?_
      clear hd e50
      have s0 := ext_cell hx s0
      have s1 := ext_cell hx s1
      have s2 := ext_cell hx s2
      have s3 := ext_cell hx s3
      have s4 := ext_cell hx s4
      have s5 := ext_cell hx s5
      go_wp2
      exact ⟨rfl, Ext.refl _, rfl⟩
    · intro vals w1 hx hd
      have e51 : vals 51 = .agg #[.int .i64 2, .int .i64 0, .int .i64 12, .int .i64 0, .int .i64 1, .int .i64 0] := hd 51 (by decide)
      have e50 : vals 50 = .bool true := hd 50 (by decide)
      refine .run [(248, .agg #[.int .i64 2, .int .i64 0, .int .i64 12, .int .i64 0, .int .i64 1, .int .i64 0]), (247, .bool true)] { dst := some 0, op := Go.Op.call { callee := Go.Callee.value (Go.Operand.func 24), args := #[(Go.Operand.const (.agg #[.int .i64 2, .int .i64 0, .int .i64 12, .int .i64 0, .int .i64 1, .int .i64 0]))], argTypes := #[31] }, type := 4, pos := "", after := #[], guard := none } 249 ⟨.inn 51 (by kernel_rfl) e51, .inn 50 (by kernel_rfl) e50, trivial⟩ (by kernel_rfl) (by kernel_rfl) (by kernel_rfl) rfl rfl rfl ?_
      clear hd e51 e50
      go_wp2_with fail
      refine (HVT.out _).mono ?_
      rintro e w2 ⟨rfl, hb2⟩
      go_wp2
      exact ⟨rfl, hb2, rfl⟩
    · intro vals w1 hx hd
      have e50 : vals 50 = .bool true := hd 50 (by decide)
      have e52 : vals 52 = .bool true := hd 52 (by decide)
      refine .run [(247, .bool true), (249, .bool true)] { dst := some 0, op := Go.Op.pick (Go.Operand.const (.bool true)) (Go.Operand.const (.bool true)) (Go.Operand.const (Go.Value.bool false)), type := 4, pos := "", after := #[], guard := none } 250 ⟨.inn 50 (by kernel_rfl) e50, .inn 52 (by kernel_rfl) e52, trivial⟩ (by kernel_rfl) (by kernel_rfl) (by kernel_rfl) rfl rfl rfl ?_
      clear hd e50 e52
      go_wp2
      exact ⟨rfl, Ext.refl _, rfl⟩
    · intro vals w1 hx hd
      have e53 : vals 53 = .bool true := hd 53 (by decide)
      refine .run [(250, .bool true)] { dst := some 0, op := Go.Op.move (Go.Operand.const (.bool true)), type := 4, pos := "", after := #[], guard := none } 251 ⟨.inn 53 (by kernel_rfl) e53, trivial⟩ (by kernel_rfl) (by kernel_rfl) (by kernel_rfl) rfl rfl rfl ?_
      clear hd e53
      go_wp2
      exact ⟨rfl, Ext.refl _, rfl⟩
    · intro vals w1 hx hd
      have e54 : vals 54 = .bool true := hd 54 (by decide)
      refine .run [(251, .bool true)] { dst := some 0, op := Go.Op.build 31 #[], type := 31, pos := "", after := #[], guard := none } 252 ⟨.inn 54 (by kernel_rfl) e54, trivial⟩ (by kernel_rfl) (by kernel_rfl) (by kernel_rfl) rfl rfl rfl ?_
      clear hd e54
      go_wp2
      exact ⟨rfl, Ext.refl _, rfl⟩
    · intro vals w1 hx hd
      have e55 : vals 55 = .agg #[.int .i64 0, .int .i64 0, .int .i64 0, .int .i64 0, .int .i64 0, .int .i64 0] := hd 55 (by decide)
      have e54 : vals 54 = .bool true := hd 54 (by decide)
      refine .run [(252, .agg #[.int .i64 0, .int .i64 0, .int .i64 0, .int .i64 0, .int .i64 0, .int .i64 0]), (251, .bool true)] { dst := some 0, op := Go.Op.call { callee := Go.Callee.value (Go.Operand.func 24), args := #[(Go.Operand.const (.agg #[.int .i64 0, .int .i64 0, .int .i64 0, .int .i64 0, .int .i64 0, .int .i64 0]))], argTypes := #[31] }, type := 4, pos := "", after := #[], guard := none } 253 ⟨.inn 55 (by kernel_rfl) e55, .inn 54 (by kernel_rfl) e54, trivial⟩ (by kernel_rfl) (by kernel_rfl) (by kernel_rfl) rfl rfl rfl ?_
      clear hd e55 e54
      go_wp2_with fail
      refine (HVU.out _).mono ?_
      rintro e w2 ⟨rfl, hb2⟩
      go_wp2
      exact ⟨rfl, hb2, rfl⟩
    · intro vals w1 hx hd
      have e56 : vals 56 = .bool false := hd 56 (by decide)
      have e54 : vals 54 = .bool true := hd 54 (by decide)
      refine .run [(253, .bool false), (251, .bool true)] { dst := some 0, op := Go.Op.unOp Go.UnOp.not 4 (Go.Operand.const (.bool false)), type := 4, pos := "", after := #[], guard := none } 254 ⟨.inn 56 (by kernel_rfl) e56, .inn 54 (by kernel_rfl) e54, trivial⟩ (by kernel_rfl) (by kernel_rfl) (by kernel_rfl) rfl rfl rfl ?_
      clear hd e56 e54
      go_wp2
      exact ⟨rfl, Ext.refl _, rfl⟩
    · intro vals w1 hx hd
      have e54 : vals 54 = .bool true := hd 54 (by decide)
      have e57 : vals 57 = .bool true := hd 57 (by decide)
      refine .run [(251, .bool true), (254, .bool true)] { dst := some 0, op := Go.Op.pick (Go.Operand.const (.bool true)) (Go.Operand.const (.bool true)) (Go.Operand.const (Go.Value.bool false)), type := 4, pos := "", after := #[], guard := none } 255 ⟨.inn 54 (by kernel_rfl) e54, .inn 57 (by kernel_rfl) e57, trivial⟩ (by kernel_rfl) (by kernel_rfl) (by kernel_rfl) rfl rfl rfl ?_
      clear hd e54 e57
      go_wp2
      exact ⟨rfl, Ext.refl _, rfl⟩
    · intro vals w1 hx hd
      have e58 : vals 58 = .bool true := hd 58 (by decide)
      refine .run [(255, .bool true)] { dst := some 0, op := Go.Op.move (Go.Operand.const (.bool true)), type := 4, pos := "", after := #[], guard := none } 256 ⟨.inn 58 (by kernel_rfl) e58, trivial⟩ (by kernel_rfl) (by kernel_rfl) (by kernel_rfl) rfl rfl rfl ?_
      clear hd e58
      go_wp2
      exact ⟨rfl, Ext.refl _, rfl⟩
    · intro vals w1 hx hd
      have e59 : vals 59 = .bool true := hd 59 (by decide)
      refine .run [(3, .pointer (some ⟨g3, 0, none⟩)), (256, .bool true)] { dst := some 0, op := Go.Op.load 31 (Go.Operand.const (.pointer (some ⟨g3, 0, none⟩))), type := 31, pos := "", after := #[], guard := none } 257 ⟨.out (by kernel_rfl) (by kernel_rfl), .inn 59 (by kernel_rfl) e59, trivial⟩ (by kernel_rfl) (by kernel_rfl) (by kernel_rfl) rfl rfl rfl ?_
      clear hd e59
      have s0 := ext_cell hx s0
      have s1 := ext_cell hx s1
      have s2 := ext_cell hx s2
      have s3 := ext_cell hx s3
      have s4 := ext_cell hx s4
      have s5 := ext_cell hx s5
      go_wp2
      exact ⟨rfl, Ext.refl _, rfl⟩
    · intro vals w1 hx hd
      have e60 : vals 60 = .agg #[.int .i64 2, .int .i64 0, .int .i64 12, .int .i64 0, .int .i64 1, .int .i64 0] := hd 60 (by decide)
      have e59 : vals 59 = .bool true := hd 59 (by decide)
      refine .run [(257, .agg #[.int .i64 2, .int .i64 0, .int .i64 12, .int .i64 0, .int .i64 1, .int .i64 0]), (256, .bool true)] { dst := some 0, op := Go.Op.buildSlice 38 1 #[(0, (Go.Operand.const (.agg #[.int .i64 2, .int .i64 0, .int .i64 12, .int .i64 0, .int .i64 1, .int .i64 0])))], type := 38, pos := "", after := #[], guard := none } 258 ⟨.inn 60 (by kernel_rfl) e60, .inn 59 (by kernel_rfl) e59, trivial⟩ (by kernel_rfl) (by kernel_rfl) (by kernel_rfl) rfl rfl rfl ?_
      clear hd e60 e59
      have hz := Below.size hx.undrew
      go_wp2
      exact ⟨rfl, (by repeat (first | exact Below.refl _ _ | assumption | refine Below.drew ?_ | refine below_drewN ?_ _ | refine bl_alloc ?_ _ | refine Below.setCell ?_ (by first | (simp; done) | omega | (simp; omega)) _ | refine bl_then ?_ (by assumption))), _, rfl, Blk.new _ _ _⟩
    · intro vals w1 hx hd
      have r61 : (fun v w1 => ∃ g, v = .slice (some ⟨g, 0, none⟩) 1 1 ∧ Blk w1 g 31 #[.int .i64 2, .int .i64 0, .int .i64 12, .int .i64 0, .int .i64 1, .int .i64 0]) (vals 61) w1 := hd 61 (by decide)
      dsimp only at r61
      obtain ⟨g_, e_, j_⟩ := r61
      have e59 : vals 59 = .bool true := hd 59 (by decide)
      refine .run [(258, .slice (some ⟨g_, 0, none⟩) 1 1), (256, .bool true)] { dst := some 0, op := Go.Op.call { callee := Go.Callee.value (Go.Operand.func 16), args := #[(Go.Operand.const (.slice (some ⟨g_, 0, none⟩) 1 1))], argTypes := #[38] }, type := 4, pos := "", after := #[], guard := none } 259 ⟨.inn 61 (by kernel_rfl) e_, .inn 59 (by kernel_rfl) e59, trivial⟩ (by kernel_rfl) (by kernel_rfl) (by kernel_rfl) rfl rfl rfl ?_
      clear hd e_ e59
      go_wp2_with fail
      refine (HT1.out _ g_ j_).mono ?_
      rintro e w2 ⟨rfl, hb2⟩
      go_wp2
      exact ⟨rfl, hb2, rfl⟩
    · intro vals w1 hx hd
      have e59 : vals 59 = .bool true := hd 59 (by decide)
      have e62 : vals 62 = .bool true := hd 62 (by decide)
      refine .run [(256, .bool true), (259, .bool true)] { dst := some 0, op := Go.Op.pick (Go.Operand.const (.bool true)) (Go.Operand.const (.bool true)) (Go.Operand.const (Go.Value.bool false)), type := 4, pos := "", after := #[], guard := none } 260 ⟨.inn 59 (by kernel_rfl) e59, .inn 62 (by kernel_rfl) e62, trivial⟩ (by kernel_rfl) (by kernel_rfl) (by kernel_rfl) rfl rfl rfl ?_
      clear hd e59 e62
      go_wp2
      exact ⟨rfl, Ext.refl _, rfl⟩
    · intro vals w1 hx hd
      have e63 : vals 63 = .bool true := hd 63 (by decide)
      refine .run [(260, .bool true)] { dst := some 0, op := Go.Op.move (Go.Operand.const (.bool true)), type := 4, pos := "", after := #[], guard := none } 261 ⟨.inn 63 (by kernel_rfl) e63, trivial⟩ (by kernel_rfl) (by kernel_rfl) (by kernel_rfl) rfl rfl rfl ?_
      clear hd e63
      go_wp2
      exact ⟨rfl, Ext.refl _, rfl⟩
    · intro vals w1 hx hd
      have e64 : vals 64 = .bool true := hd 64 (by decide)
      refine .run [(3, .pointer (some ⟨g3, 0, none⟩)), (261, .bool true)] { dst := some 0, op := Go.Op.load 31 (Go.Operand.const (.pointer (some ⟨g3, 0, none⟩))), type := 31, pos := "", after := #[], guard := none } 262 ⟨.out (by kernel_rfl) (by kernel_rfl), .inn 64 (by kernel_rfl) e64, trivial⟩ (by kernel_rfl) (by kernel_rfl) (by kernel_rfl) rfl rfl rfl ?_
      clear hd e64
      have s0 := ext_cell hx s0
      have s1 := ext_cell hx s1
      have s2 := ext_cell hx s2
      have s3 := ext_cell hx s3
      have s4 := ext_cell hx s4
      have s5 := ext_cell hx s5
      go_wp2
      exact ⟨rfl, Ext.refl _, rfl⟩
    · intro vals w1 hx hd
      have e64 : vals 64 = .bool true := hd 64 (by decide)
      refine .run [(3, .pointer (some ⟨g3, 0, none⟩)), (261, .bool true)] { dst := some 0, op := Go.Op.load 31 (Go.Operand.const (.pointer (some ⟨g3, 0, none⟩))), type := 31, pos := "", after := #[], guard := none } 263 ⟨.out (by kernel_rfl) (by kernel_rfl), .inn 64 (by kernel_rfl) e64, trivial⟩ (by kernel_rfl) (by kernel_rfl) (by kernel_rfl) rfl rfl rfl ?_
      clear hd e64
      have s0 := ext_cell hx s0
      have s1 := ext_cell hx s1
      have s2 := ext_cell hx s2
      have s3 := ext_cell hx s3
      have s4 := ext_cell hx s4
      have s5 := ext_cell hx s5
      go_wp2
      exact ⟨rfl, Ext.refl _, rfl⟩
    · intro vals w1 hx hd
      have e65 : vals 65 = .agg #[.int .i64 2, .int .i64 0, .int .i64 12, .int .i64 0, .int .i64 1, .int .i64 0] := hd 65 (by decide)
      have e66 : vals 66 = .agg #[.int .i64 2, .int .i64 0, .int .i64 12, .int .i64 0, .int .i64 1, .int .i64 0] := hd 66 (by decide)
      have e64 : vals 64 = .bool true := hd 64 (by decide)
      refine .run [(262, .agg #[.int .i64 2, .int .i64 0, .int .i64 12, .int .i64 0, .int .i64 1, .int .i64 0]), (263, .agg #[.int .i64 2, .int .i64 0, .int .i64 12, .int .i64 0, .int .i64 1, .int .i64 0]), (261, .bool true)] { dst := some 0, op := Go.Op.buildSlice 38 2 #[(0, (Go.Operand.const (.agg #[.int .i64 2, .int .i64 0, .int .i64 12, .int .i64 0, .int .i64 1, .int .i64 0]))), (1, (Go.Operand.const (.agg #[.int .i64 2, .int .i64 0, .int .i64 12, .int .i64 0, .int .i64 1, .int .i64 0])))], type := 38, pos := "", after := #[], guard := none } 264 ⟨.inn 65 (by kernel_rfl) e65, .inn 66 (by kernel_rfl) e66, .inn 64 (by kernel_rfl) e64, trivial⟩ (by kernel_rfl) (by kernel_rfl) (by kernel_rfl) rfl rfl rfl ?_
      clear hd e65 e66 e64
      have hz := Below.size hx.undrew
      go_wp2
      exact ⟨rfl, (by repeat (first | exact Below.refl _ _ | assumption | refine Below.drew ?_ | refine below_drewN ?_ _ | refine bl_alloc ?_ _ | refine Below.setCell ?_ (by first | (simp; done) | omega | (simp; omega)) _ | refine bl_then ?_ (by assumption))), _, rfl, Blk.new _ _ _⟩
    · intro vals w1 hx hd
      have r67 : (fun v w1 => ∃ g, v = .slice (some ⟨g, 0, none⟩) 2 2 ∧ Blk w1 g 31 #[.int .i64 2, .int .i64 0, .int .i64 12, .int .i64 0, .int .i64 1, .int .i64 0, .int .i64 2, .int .i64 0, .int .i64 12, .int .i64 0, .int .i64 1, .int .i64 0]) (vals 67) w1 := hd 67 (by decide)
      dsimp only at r67
      obtain ⟨g_, e_, j_⟩ := r67
      have e64 : vals 64 = .bool true := hd 64 (by decide)
      refine .run [(264, .slice (some ⟨g_, 0, none⟩) 2 2), (261, .bool true)] { dst := some 0, op := Go.Op.call { callee := Go.Callee.value (Go.Operand.func 16), args := #[(Go.Operand.const (.slice (some ⟨g_, 0, none⟩) 2 2))], argTypes := #[38] }, type := 4, pos := "", after := #[], guard := none } 265 ⟨.inn 67 (by kernel_rfl) e_, .inn 64 (by kernel_rfl) e64, trivial⟩ (by kernel_rfl) (by kernel_rfl) (by kernel_rfl) rfl rfl rfl ?_
      clear hd e_ e64
      go_wp2_with fail
      refine (HT2.out _ g_ j_).mono ?_
      rintro e w2 ⟨rfl, hb2⟩
      go_wp2
      exact ⟨rfl, hb2, rfl⟩
    · intro vals w1 hx hd
      have e68 : vals 68 = .bool false := hd 68 (by decide)
      have e64 : vals 64 = .bool true := hd 64 (by decide)
      refine .run [(265, .bool false), (261, .bool true)] { dst := some 0, op := Go.Op.unOp Go.UnOp.not 4 (Go.Operand.const (.bool false)), type := 4, pos := "", after := #[], guard := none } 266 ⟨.inn 68 (by kernel_rfl) e68, .inn 64 (by kernel_rfl) e64, trivial⟩ (by kernel_rfl) (by kernel_rfl) (by kernel_rfl) rfl rfl rfl ?_
      clear hd e68 e64
      go_wp2
      exact ⟨rfl, Ext.refl _, rfl⟩
    · intro vals w1 hx hd
      have e64 : vals 64 = .bool true := hd 64 (by decide)
      have e69 : vals 69 = .bool true := hd 69 (by decide)
      refine .run [(261, .bool true), (266, .bool true)] { dst := some 0, op := Go.Op.pick (Go.Operand.const (.bool true)) (Go.Operand.const (.bool true)) (Go.Operand.const (Go.Value.bool false)), type := 4, pos := "", after := #[], guard := none } 267 ⟨.inn 64 (by kernel_rfl) e64, .inn 69 (by kernel_rfl) e69, trivial⟩ (by kernel_rfl) (by kernel_rfl) (by kernel_rfl) rfl rfl rfl ?_
      clear hd e64 e69
      go_wp2
      exact ⟨rfl, Ext.refl _, rfl⟩
  intro vals W24 hx hf
  have e70 : vals 70 = .bool true := hf 70 (by omega)
  clear hf
  have hx := hx.undrew
  have hB := bl_then hB hx
  refine tail1 71 _ (by kernel_rfl) (by kernel_rfl) rfl ?_
  simp only [Lf, dstAt, Act.put, List.getElem?_toArray, List.getElem?_cons_zero, List.getElem?_cons_succ, Option.bind_some, List.setIfInBounds_toArray, List.set_cons_zero, List.set_cons_succ]
  rw [e70]
  clear e70
  go_wp2
  go_ret
  exact ⟨rfl, hB⟩

end Go.Proofs.Ytlmpmhfbjblhnaa
