/- Kuhn's search: passes, and the world's words. -/
import Derived.Test.YtgbfhkildbhhoaaA15
import Derived.Test.YtgbfhkildbhhoaaK0
namespace Go.Proofs.Ytgbfhkildbhhoaa
open Go.RowKit

/-- Two blocks alone may change. -/
structure Two (g1 g2 : Nat) (w w' : World) : Prop where
  os : w'.os = w.os
  tape : w'.tape = w.tape
  output : w'.output = w.output
  size : w.heap.size ≤ w'.heap.size
  block : ∀ i, i < w.heap.size → i ≠ g1 → i ≠ g2 → w'.heap[i]? = w.heap[i]?
theorem Two.refl (g1 g2 : Nat) (w : World) : Two g1 g2 w w := ⟨rfl, rfl, rfl, Nat.le_refl _, fun _ _ _ _ => rfl⟩
theorem Two.trans {g1 g2 : Nat} {a b c : World} (h : Two g1 g2 a b) (k : Two g1 g2 b c) : Two g1 g2 a c :=
  ⟨k.os.trans h.os, k.tape.trans h.tape, k.output.trans h.output, Nat.le_trans h.size k.size, fun i hi h1 h2 => (k.block i (Nat.lt_of_lt_of_le hi h.size) h1 h2).trans (h.block i hi h1 h2)⟩
theorem Two.ext {g1 g2 : Nat} {a b c : World} (h : Two g1 g2 a b) (k : Ext b c) : Two g1 g2 a c :=
  h.trans ⟨k.os, k.tape, k.output, k.size, fun i hi _ _ => k.block i hi⟩
theorem Two.left {g1 g2 : Nat} {a b c : World} (h : Two g1 g2 a b) (k : b.grownBy c (some g1)) : Two g1 g2 a c :=
  h.trans ⟨k.os, k.tape, k.output, k.size, fun i hi h1 _ => k.block i hi (fun e => h1 (by injection e))⟩
theorem Two.right {g1 g2 : Nat} {a b c : World} (h : Two g1 g2 a b) (k : b.grownBy c (some g2)) : Two g1 g2 a c :=
  h.trans ⟨k.os, k.tape, k.output, k.size, fun i hi _ h2 => k.block i hi (fun e => h2 (by injection e))⟩
theorem Two.blk {g1 g2 g : Nat} {w w' : World} {t : TypeId} {cs : Array Value} (h : Two g1 g2 w w') (j : Blk w g t cs) (h1 : g ≠ g1) (h2 : g ≠ g2) : Blk w' g t cs := (h.block g j.lt h1 h2).trans j
theorem Two.cell {g1 g2 : Nat} {w w' : World} (h : Two g1 g2 w w') (p : Addr) (hp : p.block < w.heap.size) (h1 : p.block ≠ g1) (h2 : p.block ≠ g2) : w'.cell? p = w.cell? p := by
  unfold World.cell?
  rw [h.block _ hp h1 h2]
theorem MapI.ne_blk {w : World} {g g' : Nat} {f : Int → Option Value} {t : TypeId} {cs : Array Value} (h : MapI w g f) (j : Blk w g' t cs) : g' ≠ g := by
  rintro rfl
  obtain ⟨L, c, h1, _⟩ := h
  have j2 : w.heap[g']? = some (.cells cs t (0, 0)) := j
  rw [j2] at h1
  injection h1 with h1
  cases h1

def oM (o : Int → Option Nat) : Int → Option Value := fun p => (o p).map fun k => .int .i64 (k : Int)
def tM (t : Int → Bool) : Int → Option Value := fun p => if t p then some (.bool true) else none
/-- The passes of a request, where the first ones may have one alone. -/
def psP (rs : List Req) (os : List Int) (i : Nat) : List Int := if i < os.length then [os.getD i 0] else match rs[i]? with | some r => r.l | none => []

/-- What the searches read: their own functions, the requests, and the passes alone. -/
structure GEnv (B gp gw gg gl gn go : Nat) (LA : Option Addr) (ln lc : Nat) (NA : Option Addr) (nn nc : Nat) (rs : List Req) (os : List Int) (w : World) : Prop where
  jp : Blk w gp 108 #[.func (.func 70) #[] #[.pointer (some ⟨gn, 0, none⟩), .pointer (some ⟨gl, 0, none⟩)]]
  jw : Blk w gw 107 #[.map (some go)]
  jg : Blk w gg 109 #[.func (.func 71) #[] #[.pointer (some ⟨gp, 0, none⟩), .pointer (some ⟨gw, 0, none⟩), .pointer (some ⟨gg, 0, none⟩)]]
  jl : Blk w gl 31 #[.slice LA ln lc]
  jn : Blk w gn 28 #[.slice NA nn nc]
  rl : Rqs w B LA ln lc rs
  rn : RA intCells 1 w B NA nn nc os
  hB : B ≤ w.heap.size
  hn : nn ≤ 1000
theorem Rqs.keep {w w' : World} {B n c : Nat} {A : Option Addr} {rs : List Req} (h : Rqs w B A n c rs) (hk : ∀ p : Addr, p.block < B → w'.cell? p = w.cell? p) : Rqs w' B A n c rs := ⟨h.out.keep hk, fun r hr => ⟨(h.each r hr).1.keep hk, (h.each r hr).2⟩⟩
theorem GEnv.two {B gp gw gg gl gn go gt : Nat} {LA : Option Addr} {ln lc : Nat} {NA : Option Addr} {nn nc : Nat} {rs : List Req} {os : List Int} {w w' : World} {f h : Int → Option Value} (e : GEnv B gp gw gg gl gn go LA ln lc NA nn nc rs os w) (m1 : MapI w go f) (m2 : MapI w gt h) (h1 : B ≤ go) (h2 : B ≤ gt) (x : Two go gt w w') : GEnv B gp gw gg gl gn go LA ln lc NA nn nc rs os w' := by
  have hk : ∀ p : Addr, p.block < B → w'.cell? p = w.cell? p := fun p hp => x.cell p (by have := e.hB; omega) (by omega) (by omega)
  exact ⟨x.blk e.jp (m1.ne_blk e.jp) (m2.ne_blk e.jp), x.blk e.jw (m1.ne_blk e.jw) (m2.ne_blk e.jw), x.blk e.jg (m1.ne_blk e.jg) (m2.ne_blk e.jg), x.blk e.jl (m1.ne_blk e.jl) (m2.ne_blk e.jl), x.blk e.jn (m1.ne_blk e.jn) (m2.ne_blk e.jn), e.rl.keep hk, e.rn.keep hk, Nat.le_trans e.hB x.size, e.hn⟩
theorem GEnv.ext {B gp gw gg gl gn go : Nat} {LA : Option Addr} {ln lc : Nat} {NA : Option Addr} {nn nc : Nat} {rs : List Req} {os : List Int} {w w' : World} (e : GEnv B gp gw gg gl gn go LA ln lc NA nn nc rs os w) (x : Ext w w') : GEnv B gp gw gg gl gn go LA ln lc NA nn nc rs os w' := by
  have hk : ∀ p : Addr, p.block < B → w'.cell? p = w.cell? p := fun p hp => x.cell (by have := e.hB; omega)
  exact ⟨e.jp.ext x, e.jw.ext x, e.jg.ext x, e.jl.ext x, e.jn.ext x, e.rl.keep hk, e.rn.keep hk, Nat.le_trans e.hB x.size, e.hn⟩

/-- What passes hands back. -/
def PassRet (B : Nat) (l : List Int) (w : World) (e : Ending) (w' : World) : Prop := w' = w ∧ ∃ A n c, e = .returned (.slice A n c) ∧ RA intCells 1 w B A n c l ∧ n ≤ 1000
set_option maxHeartbeats 4000000 in
theorem passes_any {B gp gw gg gl gn go : Nat} {LA : Option Addr} {ln lc : Nat} {NA : Option Addr} {nn nc : Nat} {rs : List Req} {os : List Int} {w : World} (E : GEnv B gp gw gg gl gn go LA ln lc NA nn nc rs os w) (i : Nat) (hi : i < ln) (hl : ln ≤ 1000) :
    Calls Try.prog 70 #[.int .i64 i, .pointer (some ⟨gn, 0, none⟩), .pointer (some ⟨gl, 0, none⟩)] w (PassRet B (psP rs os i) w) := by
  have c0 : w.cell? ⟨gn, 0, none⟩ = some (.slice NA nn nc) := E.jn.cell 0
  have c1 : w.cell? ⟨gl, 0, none⟩ = some (.slice LA ln lc) := E.jl.cell 0
  have hnl := E.rn.len
  have hi2 : (i : Int) < (ln : Int) := by omega
  have hwr : IntKind.i64.wrap ((i : Int) + 1) = (i : Int) + 1 := IntWalk.i64_in _ (by omega)
  by_cases hin : i < nn
  · have hin2 : (i : Int) < (nn : Int) := by omega
    obtain ⟨b, o, hz, hA, hb, hc⟩ := E.rn.at_ int_len hin
    have hd : psP rs os i = [os[i]] := by rw [psP, if_pos (by omega), List.getD_eq_getElem?_getD, List.getElem?_eq_getElem hz]; rfl
    rw [hd]
    have hcell : w.cell? ⟨b, o + i, none⟩ = some (.int .i64 os[i]) := by have h := hc 0 (by omega); rw [Nat.mul_one, Nat.add_zero] at h; exact h
    have hcap := E.rn.cap
    have hcm := E.rn.capM
    have hra : RA intCells 1 w B (some ⟨b, o + i, none⟩) 1 (nc - i) [os[i]] := by
      refine ⟨⟨by simp [intCells], fun _ => ⟨b, o + i, rfl, hb, fun k u hk => ?_⟩⟩, rfl, by omega, by omega, by omega⟩
      cases k with
      | zero => simp [intCells] at hk; subst hk; simpa using hcell
      | succ k => simp [intCells] at hk
    have HRA := Lib.hid hra
    subst hA
    clear hc hd hcell hra hnl E c1
    go_enter Try.func70, Try.ntmps70
    go_wp2
    go_ret
    exact ⟨rfl, _, _, _, rfl, HRA.out, by omega⟩
  · have hin2 : ¬ (i : Int) < (nn : Int) := by omega
    obtain ⟨b, o, hz, hA, hb, hc⟩ := E.rl.out.at_ req_len hi
    obtain ⟨hra, hrn⟩ := E.rl.each rs[i] (List.getElem_mem hz)
    have hd : psP rs os i = rs[i].l := by rw [psP, if_neg (by omega), List.getElem?_eq_getElem hz]
    rw [hd]
    generalize rs[i] = r at hc hra hrn ⊢
    obtain ⟨im, ra, rn, rc, rl⟩ := r
    have d1 : w.cell? ⟨b, o + i * 2 + 1, none⟩ = some (.slice ra rn rc) := hc 1 (by omega)
    dsimp only at hra hrn ⊢
    have HRA := Lib.hid hra
    subst hA
    clear hc hd hra hnl E
    go_enter Try.func70, Try.ntmps70
    go_wp2
    go_ret
    exact ⟨rfl, _, _, _, rfl, HRA.out, hrn⟩
end Go.Proofs.Ytgbfhkildbhhoaa
