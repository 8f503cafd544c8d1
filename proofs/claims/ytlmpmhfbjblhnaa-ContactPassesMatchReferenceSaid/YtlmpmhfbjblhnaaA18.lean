/- A range over spells, for its callers; appends that keep blocks of two cells. -/
import Derived.Test.YtlmpmhfbjblhnaaA17
import Derived.ArgAppend
namespace Go.Proofs.Ytlmpmhfbjblhnaa
open Go.RowKit Go.Shelf

def splCells (s : Spl) : List Value := [.int .i64 s.fr, .int .i64 s.tt]
theorem spl_len (x : Spl) : (splCells x).length = 2 := rfl
theorem spells_len (is : Int → Bool) (n : Nat) : ∀ t, (spellsP is t n).length ≤ n := by
  induction n with
  | zero => intro t; exact Nat.le_refl _
  | succ n ih =>
    intro t
    have h := ih (t + 1)
    unfold spellsP
    split
    · split
      · simp
      · rename_i s r hx
        rw [hx] at h
        split <;> simp at h ⊢ <;> omega
    · omega

section
variable {P : Program}
/-- An append of one element to a row of one's own: blocks of two cells stay. -/
theorem run_append_prec (w : World) (base : Nat) (t ty e : TypeId) (i : TypeInfo) (z : Value) (size bytes : Nat) (ht : P.underlying t = some (.slice e)) (hi : P.info? e = some i) (hz : i.zero = some z)
    (hsize : i.size = size) (hby : i.bytes = bytes) (hzs : z.cells.size = size) (hsz : 2 ≤ size)
    (v : Value) (k : Nat) (xs : List Value) (hown : w.ownsRow base e size v k xs) (hnil : k = 0 → v = .slice none 0 0)
    (ad : Addr) (c : Nat) (news : List Value) (hn : news.length = size) (hc : ∀ j u, news[j]? = some u → w.cell? (ad.add j) = some u) (h1 : ∀ u ∈ news, u.oneCell' = true)
    (b1 : k + 1 ≤ maxLen) (b2 : (k + 1) * bytes ≤ 140737488355328) (b3 : base ≤ w.heap.size) :
    ∃ (v' : Value) (w' : World), (Builtin.append_ #[t, t] ty #[v, .slice (some ad) 1 c]).run P w = .ok v' w' ∧ w'.ownsRow base e size v' (k + 1) (xs ++ news) ∧ w.grownBy w' v.ownBlock ∧
      ∀ (g : Nat) (cs : Array Value) (t' : TypeId), w.heap[g]? = some (Obj.cells cs t' (0, 0)) → cs.size = 2 → w'.heap[g]? = w.heap[g]? := by
  have hn1 : news.length = 1 * size := by omega
  rcases hown.2 with ⟨rfl, rfl⟩ | ⟨g0, cap, cur, rfl, hg0, hh, hcap, hmax, hcur, htk⟩
  · obtain ⟨v', w', h1', h2, h3, _⟩ := run_append_own (P := P) w base t ty e i z size bytes ht hi hz hsize hby hzs (by omega) _ 0 xs hown ad 1 c news hn1 hc h1 (by omega) (by omega) b3
    exact ⟨v', w', h1', h2, h3, fun g cs t' hg _ => h3.block g (Array.getElem?_eq_some_iff.1 hg).1 (by simp [Value.ownBlock])⟩
  · have hk : k ≠ 0 := fun h => by have := hnil h; cases this
    by_cases hroom : k + 1 ≤ cap
    · obtain ⟨w', h1', h2, h3⟩ := run_append_fits (P := P) w base t ty e i size ht hi hsize g0 k cap xs hown ad 1 c news hn1 hc h1 hroom
      refine ⟨_, w', h1', h2, h3, fun g cs t' hg hs => h3.block g (Array.getElem?_eq_some_iff.1 hg).1 ?_⟩
      intro e'
      have e2 : g = g0 := by simpa using e'
      subst e2
      rw [hg] at hh
      injection hh with hh
      injection hh with e3 _
      subst e3
      have := Nat.mul_le_mul (show 2 ≤ cap by omega) hsz
      omega
    · obtain ⟨v', w', h1', h2, h3⟩ := run_append_arg_grows (P := P) w t ty e i z size bytes ht hi hz hsize hby hzs (by omega) ⟨g0, 0, none⟩ k cap xs hown.1 (fun j u hu => hown.cells (g := g0) rfl j u hu) ad 1 c news hn1 hc (by omega) b1 b2
      exact ⟨v', w', h1', own_base h2 b3, ⟨h3.os, h3.tape, h3.output, h3.size, fun j hj _ => h3.block j hj (by simp)⟩, fun g cs t' hg _ => h3.block g (Array.getElem?_eq_some_iff.1 hg).1 (by simp)⟩
end

/-- An append inside a fence whose run is known. -/
theorem wpListIn_append_run {F : Fence} {n : Nat} {P : Program} {w : World} {ops : Array Oper} {rest : List Oper} {o : Oper} {a : Act} {Q : Exit → Act → World → Prop}
    (hg : o.guard = none) (s x : Operand) (t : TypeId) (hop : o.op = Op.call { callee := Callee.builtin Builtin.append, args := #[s, x], argTypes := #[t, t] })
    {v1 v2 v' : Value} {w' : World} (hs : a.eval s = v1) (hx : a.eval x = v2) (hrun : (Builtin.append_ #[t, t] o.type #[v1, v2]).run P w = .ok v' w')
    (hK : wpListIn F n P ops Q rest (a.put o.dst v') w') : wpListIn F n P ops Q (o :: rest) a w := by
  refine wpListIn_plain hg fun K hK' => ?_
  unfold Oper.wpIn
  refine ⟨?_, ?_⟩
  · simp [Oper.about, hop, resolve, Target.leads, Sem.run_pure]
  · rw [Oper.semAt_plain F _ _ (by rw [hop]; intro c hc'; cases hc')]
    simp [execOp, hop, resolve, invoke, builtin, hs, hx, hrun, Result.andThen]
    exact hK' _ _ hK

theorem keeps_own {W W' : World} {base : Nat} {e : TypeId} {size k : Nat} {v : Value} {xs : List Value} (h : W.ownsRow base e size v k xs) (hg : W.grownBy W' v.ownBlock) : KeepsOthers W W' :=
  ⟨hg.size, fun j o hj ho => by
    refine (hg.block j (Array.getElem?_eq_some_iff.1 hj).1 fun e' => ?_).trans hj
    rcases h.2 with ⟨rfl, _⟩ | ⟨g, cap, cur, rfl, _, hh, _⟩
    · simp [Value.ownBlock] at e'
    · have e2 : j = g := by simpa [Value.ownBlock] using e'
      subst e2
      rw [hh] at hj
      injection hj with hj
      subst hj
      cases ho⟩
theorem own_kept {B : Nat} {W W' : World} {row : Option Nat} {base : Nat} {e : TypeId} {size k : Nat} {v : Value} {xs : List Value} (h : W.ownsRow base e size v k xs) (hg : W.grownBy W' row) (hr : ∀ r, row = some r → B ≤ r ∧ ∃ o : Obj, W.heap[r]? = some o ∧ o.isCells = false) : W'.ownsRow base e size v k xs := by
  refine ⟨h.1, ?_⟩
  rcases h.2 with hn | ⟨g, cap, cur, rfl, hb, hh, r⟩
  · exact .inl hn
  · refine .inr ⟨g, cap, cur, rfl, hb, ?_, r⟩
    refine (hg.block g (Array.getElem?_eq_some_iff.1 hh).1 fun e' => ?_).trans hh
    obtain ⟨_, o, ho, hc⟩ := hr g e'.symm
    rw [hh] at ho
    injection ho with ho
    subst ho
    cases hc
theorem blk_kept {B : Nat} {W W' : World} {row : Option Nat} {g : Nat} {t : TypeId} {cs : Array Value} (h : Blk W g t cs) (hg : W.grownBy W' row) (hr : ∀ r, row = some r → B ≤ r ∧ ∃ o : Obj, W.heap[r]? = some o ∧ o.isCells = false) : Blk W' g t cs := by
  refine (hg.block g h.lt fun e' => ?_).trans h
  obtain ⟨_, o, ho, hc⟩ := hr g e'.symm
  have hh : W.heap[g]? = _ := h
  rw [hh] at ho
  injection ho with ho
  subst ho
  cases hc

theorem KpS.setCell {ex : Nat → Prop} {B0 : Nat} (W : World) (p : Addr) (u : Value) (hx : ex p.block) : KpS ex B0 W (W.setCell p u) :=
  ⟨by simp, fun k _ _ _ hk _ => Below.heap_setCell W p u k (fun e => hk (by rw [e]; exact hx))⟩
theorem KpS.append {ex : Nat → Prop} {B0 base : Nat} {W W' : World} {e : TypeId} {size k : Nat} {v : Value} {xs : List Value} (h : W.ownsRow base e size v k xs) (hb : B0 ≤ base) (hg : W.grownBy W' v.ownBlock)
    (hp : ∀ (g : Nat) (cs : Array Value) (t' : TypeId), W.heap[g]? = some (Obj.cells cs t' (0, 0)) → cs.size = 2 → W'.heap[g]? = W.heap[g]?) : KpS ex B0 W W' :=
  ⟨hg.size, fun j cs t hj _ hz => by
    rcases hz with hz | hz
    · exact hg.block j (Array.getElem?_eq_some_iff.1 hj).1 fun e' => by have := (World.ownsRow.lt h j e'.symm).1; omega
    · exact hp j cs t hj hz⟩

/-- 'for x := range spells(..)', x in a box that each round lays. -/
theorem wp_range_spells (ex : Nat → Prop) (g : Nat) (caps : Array Value) (is : Int → Bool) (fr tt : Int) (bf bt bi : Nat) (n : Nat) (hn : 1 ≤ n) {w : World} (hex : ∀ k, ex k → k < w.heap.size)
    (eg : ∀ args w, (callFunc g args).run Try.prog w = .ok (.enter g args) w)
    (kf : Blk w bf 3 #[.int .i64 fr]) (kt : Blk w bt 3 #[.int .i64 tt]) (ki : Blk w bi 96 #[.func (.func g) #[] caps]) (hf : ¬ ex bf) (ht : ¬ ex bt) (hi : ¬ ex bi)
    (b1 : -1000000 ≤ fr) (b2 : fr ≤ tt) (b3 : tt ≤ 10000000)
    (hp : ∀ t W, fr ≤ t → t < tt → KpS ex w.heap.size w W → Calls Try.prog g (#[.int .i64 t] ++ caps) W fun e W' => e = .returned (.bool (is t)) ∧ Below W.heap.size W W')
    {op : Operand} {p q : Nat} {assign body : Code} {Q : Exit → Act → World → Prop} {a : Act} (hg : a.eval op = .func (.func 82) #[] #[.pointer (some ⟨bf, 0, none⟩), .pointer (some ⟨bt, 0, none⟩), .pointer (some ⟨bi, 0, none⟩)])
    (I : List BSpl → World → Prop) (hI : OwnFrom w.heap.size I) (hIs : ∀ pre W, I pre W → w.heap.size ≤ W.heap.size) (h0 : I [] w)
    (hassign : ∀ (l : Nat) (x : BSpl) (W : World) (K : Act → World → Prop), K { tmps := (a.tmps.setIfInBounds p (.agg #[.int .i64 x.1.fr, .int .i64 x.1.tt])).setIfInBounds q (.pointer (some ⟨W.heap.size, 0, none⟩)), defers := [] } (W.alloc (.cells #[.int .i64 x.1.fr, .int .i64 x.1.tt] 34)) →
      assign.wpIn (Fence.wide.inRound l) (n - 1 - 1) Try.prog (Exit.then K (fun _ _ _ => False)) { tmps := a.tmps.setIfInBounds p (.agg #[.int .i64 x.1.fr, .int .i64 x.1.tt]), defers := [] } W)
    (hbody : ∀ (l : Nat) (pre : List BSpl) (x : BSpl) (Bx : Nat) (W : World), I pre W → w.heap.size ≤ Bx → Blk W Bx 34 #[.int .i64 x.1.fr, .int .i64 x.1.tt] → pre.length < (spellsP is fr (tt - fr).toNat).length →
      body.wpIn (Fence.wide.inRound l) (n - 1 - 1) Try.prog (ownPostG w.heap.size (KpS ex w.heap.size) I (fun _ _ _ => False) (pre ++ [x]) W) { tmps := (a.tmps.setIfInBounds p (.agg #[.int .i64 x.1.fr, .int .i64 x.1.tt])).setIfInBounds q (.pointer (some ⟨Bx, 0, none⟩)), defers := [] } W)
    (hdone : ∀ (D : Nat) (xs : List BSpl) (W : World), w.heap.size ≤ D → xs.map (·.1) = spellsP is fr (tt - fr).toNat → I xs W → W.heap[D]? = some (.deferred (some [])) → Q .normal { a with defers := { target := .collected D, args := #[] } :: a.defers } W) :
    (Code.rangeFunc op #[p] assign body).wpIn Fence.wide n Try.prog Q a w := by
  have hseq := spells1_in ex w.heap.size g caps is fr tt bf bt bi (n - 1) w hex (Nat.le_refl _) eg kf kt ki ⟨hf, kf.lt⟩ ⟨ht, kt.lt⟩ ⟨hi, ki.lt⟩ b1 b2 b3 hp
  refine wpIn_rangeFunc_ownH (F := Fence.wide) rfl hn (gf := 82) hg trivial (enters_of Try.func82 (by kernel_rfl) rfl) hseq (fun h k => h.trans k) (fun W l o o' _ h h1 _ => KpS.putObj W l o o' h h1) (Below.refl _ _) (fun _ => rfl)
    I (fun _ _ _ => False) hI (fun _ _ _ _ _ hs _ _ => hs) h0
    (fun x a' W => ∃ Bx, w.heap.size ≤ Bx ∧ w.heap.size ≤ W.heap.size ∧ Blk W Bx 34 #[.int .i64 x.1.fr, .int .i64 x.1.tt] ∧ a' = { tmps := (a.tmps.setIfInBounds p (.agg #[.int .i64 x.1.fr, .int .i64 x.1.tt])).setIfInBounds q (.pointer (some ⟨Bx, 0, none⟩)), defers := [] })
    ?_ ?_ ?_ ?_ ?_
  · rintro x a' _ X Y row ⟨Bx, h1, h2, h3, h4⟩ hgr hr
    exact ⟨Bx, h1, Nat.le_trans h2 hgr.size, blk_kept h3 hgr hr, h4⟩
  · intro l pre x W K hIp hK
    have hz : ((#[p].zip #[Value.agg #[.int .i64 x.1.fr, .int .i64 x.1.tt]]).foldl (fun t (p, v) => t.setIfInBounds p v) a.tmps) = a.tmps.setIfInBounds p (.agg #[.int .i64 x.1.fr, .int .i64 x.1.tt]) := by simp
    rw [hz]
    exact hassign l x W _ (hK _ _ ((KeepsOthers.alloc W _).from _) (KpS.ext (bl_alloc (Below.refl _ _) _)) (hI.alloc _ hIp) ⟨W.heap.size, hIs _ _ hIp, by rw [World.size_alloc]; exact Nat.le_succ_of_le (hIs _ _ hIp), Blk.new _ _ _, rfl⟩)
  · rintro l pre x a' W _ _ hIp ⟨Bx, h1, _, h3, rfl⟩ hl
    exact hbody l pre x Bx W hIp h1 h3 hl
  · intro D xs W hD hxs hIx hK
    exact hdone D xs W hD hxs hIx hK
  · rintro D c pre W _ _ h _
    exact h.elim

end Go.Proofs.Ytlmpmhfbjblhnaa
