/- The contracts over structs that stay shut, and rows of structs cut. -/
import Derived.Test.YtlmpmhfbjblhnaaC11
import Derived.Test.YtlmpmhfbjblhnaaD1
import Derived.Test.YtlmpmhfbjblhnaaC9
namespace Go.Proofs.Ytlmpmhfbjblhnaa
open Go.RowKit

def orbCells (o : Orb) : List Value := [.int .i64 o.period, .int .i64 o.phase, .int .i64 o.low, .int .i64 o.high, .int .i64 o.node, .int .i64 o.turn, .int .i64 o.slack]
theorem pas_size_ : (Try.prog.info? 47).map (·.size) = some 6 := by kernel_rfl
theorem orb_one (x : Orb) : (orbCells x).toArray.all (·.oneCell') = true := by simp [orbCells, Value.oneCell']
theorem stn_one_ (x : Stn) : (stnCells x).toArray.all (·.oneCell') = true := by simp [stnCells, Value.oneCell']
section
variable {w : World} {B n c : Nat} {A : Option Addr} {l : List St}
theorem RA.orb (h : RA satCells 21 w B A n c l) {k : Nat} (hk : k < n) : ∃ (b o : Nat) (hz : k < l.length), A = some ⟨b, o, none⟩ ∧ b < B ∧ w.rangeAt b (o + k * 21) (satCells l[k]) ∧ w.rangeAt b (o + k * 21 + 2) (orbCells l[k].orbit) := by
  obtain ⟨b, o, hz, hA, hb, hr⟩ := h.range sat_len hk
  refine ⟨b, o, hz, hA, hb, hr, fun j v hv => ?_⟩
  rw [Nat.add_assoc]
  refine hr (2 + j) v ?_
  rw [← hv]
  match j, hv with
  | 0, _ => rfl
  | 1, _ => rfl
  | 2, _ => rfl
  | 3, _ => rfl
  | 4, _ => rfl
  | 5, _ => rfl
  | 6, _ => rfl
  | j + 7, hv => simp [orbCells] at hv
end
theorem flat_takeC {α : Type} {cells : α → List Value} {s : Nat} (hs : ∀ x, (cells x).length = s) (l : List α) (k : Nat) : (l.flatMap cells).take (k * s) = (l.take k).flatMap cells := by
  induction l generalizing k with
  | nil => simp
  | cons x r ih =>
    cases k with
    | zero => simp
    | succ k =>
      rw [List.flatMap_cons, List.take_succ_cons, List.flatMap_cons, List.take_append, hs, List.take_of_length_le (by rw [hs, Nat.succ_mul]; omega), show (k + 1) * s - s = k * s by rw [Nat.succ_mul]; omega, ih]
theorem RA.cut {α : Type} {cells : α → List Value} {s : Nat} (hs : ∀ x, (cells x).length = s) {w : World} {B n c : Nat} {A : Option Addr} {l : List α} (h : RA cells s w B A n c l) (k : Nat) (hk : k ≤ n) : RA cells s w B A k c (l.take k) := by
  have hr := h.rd.upto hk
  rw [flat_takeC hs] at hr
  have h1 := h.cap
  have h2 := h.le
  exact ⟨hr, by rw [List.length_take, h.len]; omega, by omega, h.capM, by omega⟩
theorem sendable_x (x : St) (y : Pas) (w : World) : Calls Try.prog 22 #[.agg (satCells x).toArray, .agg (pasCells y).toArray] w fun e w' => e = .returned (.int .i64 (sendP x y)) ∧ Ext w w' := by
  obtain ⟨id, ow, ⟨p, f, lo, hi, no, tu, sl⟩, wi, st, ch, su, idl, sh, se, wa, co, ho, sw, ra⟩ := x
  obtain ⟨sa, sn, ⟨a, b⟩, ⟨c, d⟩⟩ := y
  exact sendable_any id ow p f lo hi no tu sl wi st ch su idl sh se wa co ho sw ra sa sn a b c d w
theorem rsend_x (x : St) (y : Pas) (w : World) : Calls Try.prog 23 #[.agg (satCells x).toArray, .agg (pasCells y).toArray] w fun e w' => e = .returned (.int .i64 (sendP x y)) ∧ Ext w w' := by
  obtain ⟨id, ow, ⟨p, f, lo, hi, no, tu, sl⟩, wi, st, ch, su, idl, sh, se, wa, co, ho, sw, ra⟩ := x
  obtain ⟨sa, sn, ⟨a, b⟩, ⟨c, d⟩⟩ := y
  exact rsend_any id ow p f lo hi no tu sl wi st ch su idl sh se wa co ho sw ra sa sn a b c d w
theorem stn_x (y : Stn) (w : World) : Calls Try.prog 24 #[.agg (stnCells y).toArray] w fun e w' => e = .returned (.bool (stnOK y)) ∧ Ext w w' := by
  obtain ⟨id, ⟨x, y⟩, re, an, sk⟩ := y
  exact station_valid id x y re an sk w
theorem rstn_x (y : Stn) (w : World) : Calls Try.prog 25 #[.agg (stnCells y).toArray] w fun e w' => e = .returned (.bool (stnOK y)) ∧ Ext w w' := by
  obtain ⟨id, ⟨x, y⟩, re, an, sk⟩ := y
  exact rstn_valid id x y re an sk w
theorem viewV_form (r : Option Bool) : ∃ (b : Bool) (e : Int), viewV r = .tuple #[.bool b, .int .i64 e] := by
  cases r with
  | none => exact ⟨false, 90, rfl⟩
  | some b => exact ⟨b, 0, rfl⟩
theorem view_x (o : Orb) (y : Stn) (t la : Int) (w : World) : Calls Try.prog 26 #[.agg (orbCells o).toArray, .agg (stnCells y).toArray, .int .i64 t, .int .i64 la] w fun e w' => e = .returned (viewV (viewP o y t la)) ∧ Ext w w' := by
  obtain ⟨p, f, lo, hi, no, tu, sl⟩ := o
  obtain ⟨id, ⟨x, y⟩, re, an, sk⟩ := y
  exact View_any p f lo hi no tu sl id x y re an sk t la w
theorem rview_x (o : Orb) (y : Stn) (t la : Int) (w : World) : Calls Try.prog 27 #[.agg (orbCells o).toArray, .agg (stnCells y).toArray, .int .i64 t, .int .i64 la] w fun e w' => e = .returned (viewV (viewP o y t la)) ∧ Ext w w' := by
  obtain ⟨p, f, lo, hi, no, tu, sl⟩ := o
  obtain ⟨id, ⟨x, y⟩, re, an, sk⟩ := y
  exact rView_any p f lo hi no tu sl id x y re an sk t la w
/-- A call hands back a new list of spells, and an error. -/
def SpRet (l : List Spl) (er : Int) (w : World) (e : Ending) (w' : World) : Prop := ∃ v, e = .returned (.tuple #[v, .int .i64 er]) ∧ w'.ownsRow w.heap.size 34 2 v l.length (l.flatMap splCells) ∧ Ext w w'
theorem spRet_of (r : Option (List Spl)) : ∃ (l : List Spl) (er : Int), ∀ (w : World) (e : Ending) (w' : World), SpellsRet r w e w' → SpRet l er w e w' := by
  cases r with
  | none => exact ⟨[], 90, fun w e w' ⟨h1, h2⟩ => ⟨_, h1, World.ownsRow_nil _ _ _ _, h2⟩⟩
  | some l => exact ⟨l, 0, fun w e w' h => h⟩
theorem contacts_x (o : Orb) (y : Stn) (u : Spl) (la : Int) : ∃ (l : List Spl) (er : Int), (∀ w, Calls Try.prog 28 #[.agg (orbCells o).toArray, .agg (stnCells y).toArray, .agg (splCells u).toArray, .int .i64 la] w (SpRet l er w)) ∧ ∀ w, Calls Try.prog 29 #[.agg (orbCells o).toArray, .agg (stnCells y).toArray, .agg (splCells u).toArray, .int .i64 la] w (SpRet l er w) := by
  obtain ⟨l, er, h⟩ := spRet_of (contactsP o y u la)
  obtain ⟨p, f, lo, hi, no, tu, sl⟩ := o
  obtain ⟨id, ⟨x, y⟩, re, an, sk⟩ := y
  obtain ⟨a, b⟩ := u
  exact ⟨l, er, fun w => (callsIn_wide.1 (Contacts_in p f lo hi no tu sl id x y re an sk a b la w)).mono (h w), fun w => (rContacts_any p f lo hi no tu sl id x y re an sk a b la w).mono (h w)⟩
theorem own_ra {w : World} {base : Nat} {v : Value} {l : List Spl} (h : w.ownsRow base 34 2 v l.length (l.flatMap splCells)) : ∃ A c, v = .slice A l.length c ∧ RA splCells 2 w w.heap.size A l.length c l := by
  obtain ⟨A, c, hv, h1, h2⟩ := own_slice h
  subst hv
  exact ⟨A, c, rfl, RA.of_own h rfl (by unfold maxLen at h2; omega)⟩

end Go.Proofs.Ytlmpmhfbjblhnaa
