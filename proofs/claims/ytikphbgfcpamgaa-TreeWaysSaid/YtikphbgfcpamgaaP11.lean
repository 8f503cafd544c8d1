/- Tiny frames, all of a region at once: an obligation of an operation bears neither the region's operations nor the frame. -/
import Derived.Test.YtikphbgfcpamgaaP10
namespace Go.Proofs.Ytikphbgfcpamgaa
open Go.RowKit

def dsAt (ds : List (Option Tmp)) (j : Nat) : Option Tmp := (ds[j]?).bind id
def outOK (ds : List (Option Tmp)) (t : Nat) : Nat → Bool
  | 0 => true
  | i + 1 => !(dsAt ds i == some t) && outOK ds t i
def inOK (ds : List (Option Tmp)) (t j : Nat) : Nat → Bool
  | 0 => true
  | i + 1 => (decide (i ≤ j) || !(dsAt ds i == some t)) && inOK ds t j i
section
variable {P : Program} {ops : Array Oper} {a0 : Act} {vals : Nat → Value} {ds : List (Option Tmp)}
theorem ds_at (h : ops.toList.map (·.dst) = ds) (j : Nat) : dstAt ops j = dsAt ds j := by
  subst h
  unfold dstAt dsAt
  rw [List.getElem?_map, Array.getElem?_toList]
  cases ops[j]? <;> rfl
theorem outOK_chk (h : ops.toList.map (·.dst) = ds) (t : Nat) : ∀ i, outOK ds t i = outChk ops t i
  | 0 => rfl
  | i + 1 => by rw [outOK, outChk, ds_at h, outOK_chk h t i]
theorem inOK_chk (h : ops.toList.map (·.dst) = ds) (t j : Nat) : ∀ i, inOK ds t j i = inChk ops t j i
  | 0 => rfl
  | i + 1 => by rw [inOK, inChk, ds_at h, inOK_chk h t j i]
inductive SlotV (ds : List (Option Tmp)) (outs : List (Nat × Value)) (N : Nat) (vals : Nat → Value) (i : Nat) : Nat → Value → Prop
  | inn {t : Nat} {v : Value} (j : Nat) (h : (decide (j < i) && (dsAt ds j == some t) && inOK ds t j i && decide (t < N)) = true) (hv : vals j = v) : SlotV ds outs N vals i t v
  | out {t : Nat} {v : Value} (h : outOK ds t i = true) (hv : look outs t = some v) : SlotV ds outs N vals i t v
def AllV (ds : List (Option Tmp)) (outs : List (Nat × Value)) (N : Nat) (vals : Nat → Value) (i : Nat) : List (Nat × Value) → Prop
  | [] => True
  | p :: r => SlotV ds outs N vals i p.1 p.2 ∧ AllV ds outs N vals i r
theorem allV_at {outs : List (Nat × Value)} {N i : Nat} (h : ops.toList.map (·.dst) = ds) (hN : a0.tmps.size = N) (ho : AllAt a0 outs) : ∀ {L : List (Nat × Value)}, AllV ds outs N vals i L → AllAt (Lf ops a0 vals i) L
  | [], _ => trivial
  | p :: r, ⟨h1, h2⟩ => by
    refine ⟨?_, allV_at h hN ho h2⟩
    cases h1 with
    | inn j hj hv =>
      simp only [Bool.and_eq_true] at hj
      obtain ⟨⟨⟨j1, j2⟩, j3⟩, j4⟩ := hj
      exact lf_in j j1 (by rw [ds_at h]; simpa using j2) (by rw [← inOK_chk h]; exact j3) (by rw [hN]; exact j4) hv
    | out hj hv => exact lf_out (by rw [← outOK_chk h]; exact hj) (look_at ho hv)
def wantD (L : List (Nat × Value)) (ds : List (Option Tmp)) (o : Oper) : Option Bool := match o.guard with
  | none => some true
  | some (g, b) => match dsAt ds g with
    | some t => (match look L t with | some v => some (wantV (some v) b) | none => none)
    | none => none
theorem wantD_eq (h : ops.toList.map (·.dst) = ds) (L : List (Nat × Value)) (o : Oper) : wantD L ds o = wantL L ops o := by
  unfold wantD wantL
  cases o.guard with
  | none => rfl
  | some gb => simp only [ds_at h] <;> rfl
inductive Small (P : Program) (ds : List (Option Tmp)) (outs : List (Nat × Value)) (N : Nat) (vals : Nat → Value) (R : Value → World → Prop) (i : Nat) (o : Oper) (w : World) : Prop
  | run (L : List (Nat × Value)) (o' : Oper) (t : Nat) (hL : AllV ds outs N vals i L) (hc : (tameOp o && covers L o && decide (t < N)) = true) (hw : wantD L ds o = some true) (he : execOp (rho L) o = execOp tiny0.eval o')
      (hd : o.dst = some t) (hd' : o'.dst = some 0) (hg' : o'.guard = none) (h : wpList P #[] (Qo tiny0 R o' w) [o'] tiny0 w) : Small P ds outs N vals R i o w
  | no (L : List (Nat × Value)) (t : Nat) (hL : AllV ds outs N vals i L) (hw : wantD L ds o = some false) (hd : o.dst = some t) (ht : decide (t < N) = true) (hr : R undef w) : Small P ds outs N vals R i o w
theorem Small.r {outs : List (Nat × Value)} {N : Nat} {R : Value → World → Prop} {i : Nat} {o : Oper} {w : World} (L : List (Nat × Value)) (op : Go.Op) (ty : TypeId) (t : Nat) (hL : AllV ds outs N vals i L) (h : wpList P #[] (Qo tiny0 R ⟨some 0, op, ty, "", #[], none⟩ w) [⟨some 0, op, ty, "", #[], none⟩] tiny0 w)
    (hc : (tameOp o && covers L o && decide (t < N)) = true := by kernel_rfl) (hw : wantD L ds o = some true := by kernel_rfl) (he : execOp (rho L) o = execOp tiny0.eval ⟨some 0, op, ty, "", #[], none⟩ := by kernel_rfl) (hd : o.dst = some t := by exact rfl) : Small P ds outs N vals R i o w := .run L _ t hL hc hw he hd rfl rfl h
theorem small_obl {outs : List (Nat × Value)} {N i : Nat} {o : Oper} {R : Value → World → Prop} {w : World} (h : ops.toList.map (·.dst) = ds) (hN : a0.tmps.size = N) (ho : AllAt a0 outs) (hs : Small P ds outs N vals R i o w) : wpList P ops (Qo a0 R o w) [o] (Lf ops a0 vals i) w := by
  cases hs with
  | run L o' t hL hc hw he hd hd' hg' hx =>
    simp only [Bool.and_eq_true] at hc
    exact tiny L o' t hc.1.1 (allV_at h hN ho hL) hc.1.2 (by rw [← wantD_eq h]; exact hw) he hd (by rw [hN]; exact hc.2) hd' hg' hx
  | no L t hL hw hd ht hr => exact tiny_no L (allV_at h hN ho hL) (by rw [← wantD_eq h]; exact hw) t hd (by rw [hN]; exact ht) hr
def OblsT (P : Program) (ds : List (Option Tmp)) (outs : List (Nat × Value)) (N : Nat) (w0 : World) (R : Nat → (Nat → Value) → Value → World → Prop) : Nat → List Oper → Prop
  | _, [] => True
  | k, o :: rest => (∀ (vals : Nat → Value) (w : World), Ext w0 w → (∀ d ∈ depsOf o, R d vals (vals d) w) → Small P ds outs N vals (R k vals) k o w) ∧ OblsT P ds outs N w0 R (k + 1) rest
theorem obls_ofT {w0 : World} {R : Nat → (Nat → Value) → Value → World → Prop} (ds : List (Option Tmp)) (outs : List (Nat × Value)) (N : Nat) (h : ops.toList.map (·.dst) = ds) (hN : a0.tmps.size = N) (ho : AllAt a0 outs) :
    ∀ {l : List Oper} {k : Nat}, OblsT P ds outs N w0 R k l → Obls P ops a0 w0 R k l
  | [], _, _ => trivial
  | _ :: _, _, ⟨h1, h2⟩ => ⟨fun vals w hx hd _ => small_obl h hN ho (h1 vals w hx hd), obls_ofT ds outs N h hN ho h2⟩
end
end Go.Proofs.Ytikphbgfcpamgaa
