/- Valid: a map of lists of spells. -/
import Derived.Test.YtgbfhkildbhhoaaA2
import Derived.Test.YtgbfhkildbhhoaaTn2
import Derived.BigQuiet
import Derived.Test.YtgbfhkildbhhoaaRegB
import Derived.ArgAppend
namespace Go.Proofs.Ytgbfhkildbhhoaa
open Go.RowKit

section
variable {P : Program} {w : World} {ops : Array Oper} {rest : List Oper} {o : Oper} {a : Act} {Q : Exit → Act → World → Prop}
/-- A store into a map whose run is known. -/
theorem wpList_mapUpdate_run (hg : o.guard = none) (m x v : Operand) (t : TypeId) (hop : o.op = Op.mapUpdate t m x v) {M X V : Value} {w' : World} (hm : a.eval m = M) (hx : a.eval x = X) (hv : a.eval v = V)
    (hrun : (Instr.mapUpdate t M X V).run P w = .ok () w') (hK : wpList P ops Q rest (a.put o.dst undef) w') : wpList P ops Q (o :: rest) a w := by
  refine wpList_plain hg fun K hK' => ?_
  unfold Oper.wp
  simp [execOp, hop, hm, hx, hv, hrun, Result.andThen]
  exact hK' _ _ hK
end
def idxA {α : Type} (p : α → Bool) : List α → Int → Int
  | [], _ => -1
  | x :: r, k => if p x then k else idxA p r (k + 1)
theorem idxA_any {α : Type} (p : α → Bool) (l : List α) (k : Int) (hk : 0 ≤ k) : (0 ≤ idxA p l k) = (l.any p = true) := by
  induction l generalizing k with
  | nil => simp [idxA]
  | cons x r ih =>
    unfold idxA
    cases hx : p x
    · simp [hx, ih (k + 1) (by omega)]
    · simp [hx, hk]
theorem idxA_drop {α : Type} (p : α → Bool) (l : List α) (k : Nat) (h : k < l.length) : idxA p (l.drop k) k = if p l[k] then (k : Int) else idxA p (l.drop (k + 1)) (k + 1 : Nat) := by
  rw [List.drop_eq_getElem_cons h, idxA]
  split <;> simp
theorem idxSpl (K : Nat) (caps : Array Value) (q : Spl → Bool) (l : List Spl) (SA : Option Addr) (n c : Nat) (w : World) (hr : RA splCells 2 w w.heap.size SA n c l) (hn : n ≤ 1000) (hent : ∀ args w, (callFunc K args).run Try.prog w = .ok (.enter K args) w)
    (hk : ∀ (u : Spl) (W : World), Ext w W → Calls Try.prog K (#[.agg #[.int .i64 u.fr, .int .i64 u.tt]] ++ caps) W fun e w' => e = .returned (.bool (q u)) ∧ Ext W w') :
    Calls Try.prog 69 #[.slice SA n c, .func (.func K) #[] caps] w fun e w' => e = .returned (.int .i64 (idxA q l 0)) ∧ Ext w w' := by
  have HK := Lib.hid hk
  have HR := Lib.hid hr
  have HL := Lib.hid hr.len
  clear hk hr
  go_enter Try.func69, Try.ntmps69
  go_wp2
  go_loopw [8] (fun y wr => ∃ k : Nat, k ≤ n ∧ y = .int .i64 k ∧ Hid (idxA q l 0 = idxA q (l.drop k) k) ∧ Ext w wr) (fun y _ => n - (intOf y).toNat)
  case atStart => exact ⟨0, Nat.zero_le _, rfl, Lib.hid rfl, Ext.refl _⟩
  case round =>
    obtain ⟨k, hk, rfl, H, hx⟩ := hrel
    by_cases hkn : k < n
    · obtain ⟨gb, go, hz, hA, _, hc⟩ := (HR.out.below hx).at_ spl_len hkn
      have hst := idxA_drop q l k hz
      rw [← H.out] at hst
      have hcl := fun W h => HK.out l[k] W h
      generalize l[k] = u at hc hst hcl
      obtain ⟨uf, ut⟩ := u
      dsimp only at hcl
      generalize q ⟨uf, ut⟩ = b at hst hcl
      have d0 : wr.cell? ⟨gb, go + k * 2, none⟩ = some (.int .i64 uf) := hc 0 (by omega)
      have d1 : wr.cell? ⟨gb, go + k * 2 + 1, none⟩ = some (.int .i64 ut) := hc 1 (by omega)
      have HCL := Lib.hid hcl
      have HST := Lib.hid hst
      clear hc hst hcl hz H
      subst hA
      go_wp2_with fail
      refine (HCL.out _ hx).mono ?_
      rintro e W2 ⟨rfl, hy⟩
      have hx := Ext.trans hx hy
      clear hy d0 d1
      cases b
      · go_wp2
        go_roundw
        case rel => exact ⟨k + 1, by omega, by go_num, Lib.hid (by rw [HST.out]; simp), hx⟩
        case measure => simp [intOf]; omega
      · go_wp2
        go_ret
        exact ⟨by rw [HST.out]; simp, hx⟩
    · have he : idxA q l 0 = -1 := by rw [H.out, List.drop_of_length_le (by rw [HL.out]; omega)]; rfl
      have HE := Lib.hid he
      clear he H
      go_wp2
      go_ret
      exact ⟨by rw [HE.out]; rfl, hx⟩
theorem conSpl (K : Nat) (caps : Array Value) (q : Spl → Bool) (l : List Spl) (SA : Option Addr) (n c : Nat) (w : World) (hr : RA splCells 2 w w.heap.size SA n c l) (hn : n ≤ 1000) (hent : ∀ args w, (callFunc K args).run Try.prog w = .ok (.enter K args) w)
    (hk : ∀ (u : Spl) (W : World), Ext w W → Calls Try.prog K (#[.agg #[.int .i64 u.fr, .int .i64 u.tt]] ++ caps) W fun e w' => e = .returned (.bool (q u)) ∧ Ext W w') :
    Calls Try.prog 48 #[.slice SA n c, .func (.func K) #[] caps] w fun e w' => e = .returned (.bool (l.any q)) ∧ Ext w w' := by
  have HI := Lib.hid (idxSpl K caps q l SA n c w hr hn hent hk)
  have hb : l.any q = decide (0 ≤ idxA q l 0) := by rw [Bool.eq_iff_iff, decide_eq_true_eq, idxA_any q l 0 (Int.le_refl 0)]
  rw [hb]
  generalize idxA q l 0 = v at HI ⊢
  clear hb hr hk
  go_enter Try.func48, Try.ntmps48
  go_wp2_with fail
  refine HI.out.mono ?_
  rintro e W ⟨rfl, hx⟩
  go_wp2
  go_ret
  exact ⟨rfl, hx⟩

/-- The spells of a satellite among uses. -/
def lstK (k : Int) (P : List Use) : List Spl := (P.filter fun u => decide (u.sat = k)).map Use.spl
/-- A map of the lists of spells by satellite, each in a row of its own. -/
structure SpM (B : Nat) (w : World) (g : Nat) (P : List Use) (f : Int → Option Value) : Prop where
  map : MapI w g f
  nil : ∀ k, f k = none → lstK k P = []
  own : ∀ k v, f k = some v → w.ownsRow B 24 2 v (lstK k P).length ((lstK k P).flatMap splCells) ∧ ∃ b, v.ownBlock = some b ∧ b ≠ g
  apart : ∀ j k v v', j ≠ k → f j = some v → f k = some v' → v.ownBlock ≠ v'.ownBlock
theorem SpM.ext {B : Nat} {w w' : World} {g : Nat} {P : List Use} {f : Int → Option Value} (h : SpM B w g P f) (hx : Ext w w') : SpM B w' g P f :=
  ⟨h.map.ext hx, h.nil, fun k v hf => ⟨own_ext (h.own k v hf).1 hx, (h.own k v hf).2⟩, h.apart⟩
theorem SpM.new (B : Nat) (w : World) : SpM B (w.alloc (.map #[] 0)) w.heap.size [] (fun _ => none) := ⟨MapI.new w, fun _ _ => rfl, fun _ _ h => by (cases h), fun _ _ _ _ _ h => by (cases h)⟩
theorem lstK_snoc (k : Int) (P : List Use) (u : Use) : lstK k (P ++ [u]) = lstK k P ++ (if u.sat = k then [u.spl] else []) := by
  unfold lstK
  rw [List.filter_append, List.map_append]
  by_cases h : u.sat = k <;> simp [h]
theorem lstK_len (k : Int) (P : List Use) : (lstK k P).length ≤ P.length := by
  unfold lstK
  rw [List.length_map]
  exact List.length_filter_le _ _
/-- What the entry of a satellite holds. -/
theorem SpM.at_ {B : Nat} {w : World} {g : Nat} {P : List Use} {f : Int → Option Value} (h : SpM B w g P f) (k : Int) : w.ownsRow B 24 2 ((f k).getD (.slice none 0 0)) (lstK k P).length ((lstK k P).flatMap splCells) := by
  cases hf : f k with
  | none =>
    rw [h.nil k hf]
    exact World.ownsRow_nil _ _ _ _
  | some v => exact (h.own k v hf).1
/-- A further spell behind a satellite's list. -/
theorem SpM.put {B : Nat} {w w1 w2 : World} {g : Nat} {P : List Use} {f : Int → Option Value} (h : SpM B w g P f) (u : Use) (v' : Value)
    (hown : w1.ownsRow B 24 2 v' ((lstK u.sat P).length + 1) ((lstK u.sat P).flatMap splCells ++ splCells u.spl)) (hg : w.grownBy w1 ((f u.sat).getD (.slice none 0 0)).ownBlock)
    (hnew : v'.ownBlock = ((f u.sat).getD (.slice none 0 0)).ownBlock ∨ ∃ b, w.heap.size ≤ b ∧ v'.ownBlock = some b) (hmap : MapI w2 g (fun j => if j = u.sat then some v' else f j)) (hg2 : w1.grownBy w2 (some g)) :
    SpM B w2 g (P ++ [u]) (fun j => if j = u.sat then some v' else f j) := by
  have hgl := h.map.lt
  obtain ⟨b', hb'⟩ : ∃ b, v'.ownBlock = some b := by
    rcases hown.2 with ⟨_, hn⟩ | ⟨b, _, _, rfl, _⟩
    · omega
    · exact ⟨b, rfl⟩
  have hbg : b' ≠ g := by
    rintro rfl
    rcases hnew with e | ⟨b2, hb2, e⟩
    · rw [hb'] at e
      cases hf : f u.sat with
      | none => rw [hf] at e; cases e
      | some v0 =>
        rw [hf] at e
        obtain ⟨b0, h0, h1⟩ := (h.own _ _ hf).2
        simp only [Option.getD_some] at e
        rw [h0] at e
        exact h1 (by injection e with e; exact e.symm)
    · rw [hb'] at e
      have : b' = b2 := by injection e
      omega
  have hkeep : ∀ k v, k ≠ u.sat → f k = some v → w2.ownsRow B 24 2 v (lstK k P).length ((lstK k P).flatMap splCells) ∧ v.ownBlock ≠ v'.ownBlock := by
    intro k v hk hf
    obtain ⟨h1, b, hb, hne⟩ := h.own k v hf
    have hlt : b < w.heap.size := (World.ownsRow.lt h1 b hb).2
    have ha : v.ownBlock ≠ ((f u.sat).getD (.slice none 0 0)).ownBlock := by
      cases hf2 : f u.sat with
      | none => rw [hb]; intro e; cases e
      | some v0 => exact h.apart k u.sat v v0 hk hf hf2
    refine ⟨((h1.kept hg (.inr ha)).kept hg2 (.inr (by rw [hb]; intro e; injection e with e; exact hne e))), ?_⟩
    rcases hnew with e | ⟨b2, hb2, e⟩
    · rw [e]; exact ha
    · rw [e, hb]
      intro e
      injection e with e
      omega
  refine ⟨hmap, fun k hk => ?_, fun k v hf => ?_, fun j k v1 v2 hjk h1 h2 => ?_⟩
  · by_cases hks : k = u.sat
    · rw [if_pos hks] at hk; cases hk
    · rw [if_neg hks] at hk
      rw [lstK_snoc, h.nil k hk, if_neg (fun e => hks e.symm)]
      rfl
  · by_cases hks : k = u.sat
    · subst hks
      rw [if_pos rfl] at hf
      injection hf with hf
      subst hf
      refine ⟨?_, b', hb', hbg⟩
      rw [lstK_snoc, if_pos rfl, List.length_append, List.flatMap_append]
      have := hown.kept hg2 (.inr (by rw [hb']; intro e; injection e with e; exact hbg e))
      simpa using this
    · rw [if_neg hks] at hf
      rw [lstK_snoc, if_neg (fun e => hks e.symm), List.append_nil]
      exact ⟨(hkeep k v hks hf).1, (h.own k v hf).2⟩
  · by_cases hj : j = u.sat
    · rw [if_pos hj] at h1
      rw [if_neg (fun e => hjk (hj.trans e.symm))] at h2
      injection h1 with h1
      subst h1
      exact fun e => (hkeep k v2 (fun e => hjk (hj.trans e.symm)) h2).2 e.symm
    · rw [if_neg hj] at h1
      by_cases hk : k = u.sat
      · rw [if_pos hk] at h2
        injection h2 with h2
        subst h2
        exact (hkeep j v1 hj h1).2
      · rw [if_neg hk] at h2
        exact h.apart j k v1 v2 hjk h1 h2

/-- Other blocks stay; block g stays, or turns into these cells. -/
def TG (g : Nat) (o : Obj) (w w' : World) : Prop := w.grownBy w' (some g) ∧ (w'.heap[g]? = w.heap[g]? ∨ w'.heap[g]? = some o)
theorem tg_tr (g : Nat) (o : Obj) : RB.Tr (TG g o) :=
  ⟨fun w => ⟨World.grownBy.refl w _, .inl rfl⟩, fun {a b c} h k => ⟨⟨k.1.os.trans h.1.os, k.1.tape.trans h.1.tape, k.1.output.trans h.1.output, Nat.le_trans h.1.size k.1.size, fun i hi hne => (k.1.block i (Nat.lt_of_lt_of_le hi h.1.size) hne).trans (h.1.block i hi hne)⟩, by
    rcases k.2 with k2 | k2
    · rcases h.2 with h2 | h2
      · exact .inl (k2.trans h2)
      · exact .inr (k2.trans h2)
    · exact .inr k2⟩⟩
theorem TG.of_ext {g : Nat} {o : Obj} {w w' : World} (h : Ext w w') (hg : g < w.heap.size) : TG g o w w' := ⟨⟨h.os, h.tape, h.output, h.size, fun i hi _ => h.block i hi⟩, .inl (h.block g hg)⟩
theorem TG.undrew {g : Nat} {o : Obj} {w w' : World} (h : TG g o w.drew w') : TG g o w w' := ⟨⟨h.1.os, h.1.tape, h.1.output, h.1.size, h.1.block⟩, h.2⟩
theorem TG.cell {g : Nat} {o : Obj} {w w' : World} (h : TG g o w w') {p : Addr} {v : Value} (hc : w.cell? p = some v) (hp : p.block ≠ g) : w'.cell? p = some v :=
  (World.cell?_of_block (h.1.block p.block (World.block_lt_of_cell? w _ hc) (by intro e; injection e with e; exact hp e))).trans hc
theorem TG.blk {g g' : Nat} {o : Obj} {w w' : World} {t : TypeId} {cs : Array Value} (h : TG g o w w') (hb : Blk w g' t cs) (hp : g' ≠ g) : Blk w' g' t cs := (h.1.block g' hb.lt (by intro e; injection e with e; exact hp e)).trans hb
/-- The cells of a row behind an append in place. -/
def putC (cur : Array Value) (k : Nat) (news : List Value) : Array Value := (cur.toList.take k ++ news ++ cur.toList.drop (k + news.length)).toArray
theorem putC_size {cur : Array Value} {k : Nat} {news : List Value} (h : k + news.length ≤ cur.size) : (putC cur k news).size = cur.size := by
  simp only [putC, List.size_toArray, List.length_append, List.length_take, List.length_drop, Array.length_toList]
  omega
theorem putC_twice {cur : Array Value} {k : Nat} {news : List Value} (h : k + news.length ≤ cur.size) : putC (putC cur k news) k news = putC cur k news := by
  unfold putC
  congr 1
  have e1 : (cur.toList.take k).length = k := by rw [List.length_take, Array.length_toList]; omega
  have e2 : (cur.toList.take k ++ news).length = k + news.length := by rw [List.length_append, e1]
  congr 1
  · congr 1
    rw [List.append_assoc]
    simp only [List.take_append, e1]
    simp [List.take_take]
  · rw [List.drop_append, e2, List.drop_of_length_le (by rw [e2]; exact Nat.le_refl _), Nat.sub_self, List.drop_zero, List.nil_append]
theorem putC_take {cur : Array Value} {k : Nat} {news : List Value} (h : k + news.length ≤ cur.size) : (putC cur k news).toList.take (k + news.length) = cur.toList.take k ++ news := by
  unfold putC
  have e2 : (cur.toList.take k ++ news).length = k + news.length := by rw [List.length_append, List.length_take, Array.length_toList]; omega
  simp only
  rw [List.take_append_of_le_length (by omega), List.take_of_length_le (by omega)]
end Go.Proofs.Ytgbfhkildbhhoaa
