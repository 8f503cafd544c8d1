/- An append in place inside a region that draws its order; receipts that are odd, or twice (contracts for a case). -/
import Derived.Test.YtmlabgmigakcbaaT0
import Derived.Deep.DeepAppendRoom
import Derived.ArgAppend
namespace Go.Proofs.Ytmlabgmigakcbaa
open Go.RowKit

/-- What one append onto a row of the region's own does to memory: a row may change, if it then begins as F does. -/
structure TX (t : TypeId) (B : Nat) (F : List Value) (w w' : World) : Prop where
  os : w'.os = w.os
  tape : w'.tape = w.tape
  output : w'.output = w.output
  size : w.heap.size ≤ w'.heap.size
  block : ∀ k, k < w.heap.size → w'.heap[k]? = w.heap[k]? ∨ (B ≤ k ∧ ∃ cur cur', Blk w k t cur ∧ Blk w' k t cur' ∧ cur'.size = cur.size ∧ cur'.toList.take F.length = F)
section
variable {t : TypeId} {B : Nat} {F : List Value} {w w' w'' : World}
theorem tx_refl (w : World) : TX t B F w w := ⟨rfl, rfl, rfl, Nat.le_refl _, fun _ _ => .inl rfl⟩
theorem TX.trans (h : TX t B F w w') (k : TX t B F w' w'') : TX t B F w w'' := by
  refine ⟨k.os.trans h.os, k.tape.trans h.tape, k.output.trans h.output, Nat.le_trans h.size k.size, fun i hi => ?_⟩
  rcases k.block i (Nat.lt_of_lt_of_le hi h.size) with h2 | ⟨hB, c1, c2, j1, j2, hs, ht⟩
  · rcases h.block i hi with h1 | ⟨hB, c1, c2, j1, j2, hs, ht⟩
    · exact .inl (h2.trans h1)
    · exact .inr ⟨hB, c1, c2, j1, h2.trans j2, hs, ht⟩
  · rcases h.block i hi with h1 | ⟨_, d1, d2, i1, i2, hs', _⟩
    · exact .inr ⟨hB, c1, c2, h1.symm.trans j1, j2, hs, ht⟩
    · have := Blk.inj i2 j1
      subst this
      exact .inr ⟨hB, d1, c2, i1, j2, hs.trans hs', ht⟩
theorem tx_tr (t : TypeId) (B : Nat) (F : List Value) : RB.Tr (TX t B F) := ⟨tx_refl, TX.trans⟩
theorem TX.of_ext (h : Ext w w') : TX t B F w w' := ⟨h.os, h.tape, h.output, h.size, fun k hk => .inl (h.block k hk)⟩
theorem TX.undrew (h : TX t B F w.drew w') : TX t B F w w' := ⟨h.os, h.tape, h.output, h.size, h.block⟩
theorem TX.below (h : TX t B F w w') (hB : B ≤ w.heap.size) : Below B w w' := ⟨h.os, h.tape, h.output, h.size, fun k hk => by
  rcases h.block k (by omega) with h1 | ⟨h1, _⟩
  · exact h1
  · omega⟩
theorem TX.own (h : TX t B F w w') {b s n : Nat} {v : Value} {xs : List Value} (ho : w.ownsRow b t s v n xs) (hF : F.take xs.length = xs) : w'.ownsRow b t s v n xs := by
  refine ⟨ho.1, ?_⟩
  rcases ho.2 with h0 | ⟨g, cap, cur, hv, hb, hg, r1, r2, r3, r4⟩
  · exact .inl h0
  · have hlt : g < w.heap.size := Blk.lt (t := t) (cs := cur) hg
    rcases h.block g hlt with h1 | ⟨_, c1, c2, j1, j2, hs, ht⟩
    · exact .inr ⟨g, cap, cur, hv, hb, h1.trans hg, r1, r2, r3, r4⟩
    · have := Blk.inj (t := t) (cs := cur) hg j1
      subst this
      refine .inr ⟨g, cap, c2, hv, hb, j2, r1, r2, hs.trans r3, ?_⟩
      have hle : xs.length ≤ F.length := by have := congrArg List.length hF; rw [List.length_take] at this; omega
      rw [← ho.1, ← Nat.min_eq_left hle, ← List.take_take, ht, hF]
theorem TX.blk (h : TX t B F w w') {g : Nat} {cs : Array Value} (hb : Blk w g t cs) (hF : F.length = cs.size → F = cs.toList) (hle : cs.size ≤ F.length) : Blk w' g t cs := by
  rcases h.block g hb.lt with h1 | ⟨_, c1, c2, j1, j2, hs, ht⟩
  · exact h1.trans hb
  · have := Blk.inj hb j1
    subst this
    have hl := congrArg List.length ht
    rw [List.length_take] at hl
    have hcl : c2.toList.length = c2.size := Array.length_toList
    have hml : min F.length c2.size ≤ c2.size := Nat.min_le_right _ _
    have e : F.length = cs.size := by omega
    have hle2 : c2.toList.length ≤ F.length := by omega
    rw [List.take_of_length_le hle2, hF e] at ht
    have : c2 = cs := Array.toList_inj.1 ht
    rw [← this]
    exact j2
theorem TX.blk0 (h : TX t B F w w') {g : Nat} (hb : Blk w g t #[]) (hF : F.length ≠ 0) : Blk w' g t #[] := h.blk hb (fun e => absurd e (by simpa using hF)) (Nat.zero_le _)
theorem TX.far (h : TX t B F w w') {g : Nat} {t' : TypeId} {cs : Array Value} (hb : Blk w g t' cs) (hne : t ≠ t') : Blk w' g t' cs := by
  rcases h.block g hb.lt with h1 | ⟨_, c1, c2, j1, j2, hs, ht⟩
  · exact h1.trans hb
  · exact absurd rfl (hb.ne_ j1 (Ne.symm hne))
end
/-- The append itself. -/
theorem app_tx {P : Program} (w : World) (base : Nat) (t ty e : TypeId) (i : TypeInfo) (z : Value) (size bytes : Nat) (ht : P.underlying t = some (.slice e)) (hi : P.info? e = some i) (hz : i.zero = some z)
    (hsize : i.size = size) (hby : i.bytes = bytes) (hzs : z.cells.size = size) (hsz : 0 < size)
    (v : Value) (n : Nat) (xs : List Value) (hown : w.ownsRow base e size v n xs)
    (a : Addr) (m c : Nat) (news : List Value) (hl : news.length = m * size) (hnews : ∀ j u, news[j]? = some u → w.cell? (a.add j) = some u) (h1 : ∀ u ∈ news, u.oneCell' = true)
    (h63 : n + m ≤ maxLen) (hbytes : (n + m) * bytes ≤ 140737488355328) (hbase : base ≤ w.heap.size) :
    ∃ v' w', (Builtin.append_ #[t, t] ty #[v, .slice (some a) m c]).run P w = .ok v' w' ∧ w'.ownsRow base e size v' (n + m) (xs ++ news) ∧ TX e base (xs ++ news) w w' := by
  have hlen : (xs ++ news).length = (n + m) * size := by rw [List.length_append, hown.1, hl, Nat.add_mul]
  rcases hown.2 with ⟨rfl, rfl⟩ | ⟨g, cap, cur, rfl, hbg, hg, hnc, hcm, hcs, htake⟩
  · obtain ⟨v', w', hr, h2, h3, -⟩ := run_append_own (P := P) w base t ty e i z size bytes ht hi hz hsize hby hzs hsz _ _ xs hown a m c news hl hnews h1 h63 hbytes hbase
    exact ⟨v', w', hr, h2, ⟨h3.os, h3.tape, h3.output, h3.size, fun k hk => .inl (h3.block k hk (fun e => by cases e))⟩⟩
  · by_cases hroom : n + m ≤ cap
    · obtain ⟨w', hr, h2, h3⟩ := run_append_own_spare (P := P) w base t ty e i size ht hi hsize g n cap xs hown a m c news hl hnews h1 hroom
      refine ⟨_, w', hr, h2, ⟨h3.os, h3.tape, h3.output, h3.size, fun k hk => ?_⟩⟩
      by_cases hkg : k = g
      · subst hkg
        rcases h2.2 with ⟨h0, _⟩ | ⟨g', cap', cur', hv', _, hg', _, _, hcs', htake'⟩
        · cases h0
        · injection hv' with e1 e2 e3
          injection e1 with e1
          injection e1 with e1 _ _
          subst e1 e3
          exact .inr ⟨hbg, cur, cur', hg, hg', hcs'.trans hcs.symm, by rw [hlen]; exact htake'⟩
      · exact .inl (h3.block k hk (fun e => hkg (by injection e)))
    · have holds : ∀ j u, xs[j]? = some u → w.cell? ((⟨g, 0, none⟩ : Addr).add j) = some u := hown.cells (g := g) rfl
      obtain ⟨v', w', hr, h2, h3⟩ := run_append_arg_grows (P := P) (w := w) t ty e i z size bytes ht hi hz hsize hby hzs hsz ⟨g, 0, none⟩ n cap xs hown.1 holds a m c news hl hnews (by omega) h63 hbytes
      exact ⟨v', w', hr, own_base h2 hbase, ⟨h3.os, h3.tape, h3.output, h3.size, fun k hk => .inl (h3.block k hk (by simp))⟩⟩
theorem odd_app {w : World} (ty : TypeId) (xs : List Rcp) (r : Rcp) (v : Value) (base gx : Nat) (h : OwnRc w base v xs) (jx : Blk w gx 63 #[.int .i64 r.sn, .int .i64 r.im, .int .i64 r.at_]) (hn : xs.length ≤ 900) (hb : base ≤ w.heap.size) :
    ∃ v' w', (Builtin.append_ #[33, 33] ty #[v, .slice (some ⟨gx, 0, none⟩) 1 1]).run Try.prog w = .ok v' w' ∧ OwnRc w' base v' (xs ++ [r]) ∧ TX 63 base (xs.flatMap rcpCells ++ rcpCells r) w w' := by
  obtain ⟨i0, hi0, hz0, hz1, hz2⟩ := info_parts info_rcp
  obtain ⟨v', w', h1, h2, h3⟩ := app_tx (P := Try.prog) w base 33 ty 63 i0 _ 3 24 Try.underlying33 hi0 hz0 hz1 hz2 rfl (by omega) v _ _ h ⟨gx, 0, none⟩ 1 1 (rcpCells r) rfl (fun j u hu => by
    rw [Addr.add_lit, Nat.zero_add, jx.cell]
    rw [← hu]
    show _ = [Value.int .i64 r.sn, .int .i64 r.im, .int .i64 r.at_][j]?
    simp) (fun u hu => by
    simp [rcpCells] at hu
    rcases hu with rfl | rfl | rfl <;> rfl) (by unfold maxLen; omega) (by omega) hb
  refine ⟨v', w', h1, ?_, h3⟩
  unfold OwnRc
  rw [List.length_append, List.flatMap_append]
  simpa using h2
/-- turned, with the form of what it returns. -/
theorem turned_cas2 (c : Cas) (t turn : Int) (OA PA SA LA RA_ : Option Addr) (oc pc sc ln lc rn rc : Nat) (os : List Opt) (w : World) (hm : MadeR w c OA PA SA oc pc sc os) (hl : RA intCells 1 w w.heap.size LA ln lc (lostI c)) (hr : RA rcpCells 3 w w.heap.size RA_ rn rc (rcL c (casO c))) (hrn : rn ≤ 8) (ht : I64ok turn) :
    Calls Try.prog 30 #[.slice OA (casO c).length oc, .slice PA (casP c).length pc, .slice LA ln lc, .slice RA_ rn rc, .int .i64 t, .int .i64 turn] w fun e w' =>
      ∃ A n k, e = .returned (.slice A n k) ∧ RA rcpCells 3 w' w'.heap.size A n k (ownL c t turn) ∧ n ≤ 8 ∧ ((A = none ∧ n = 0 ∧ k = 0) ∨ ∃ g, A = some ⟨g, 0, none⟩) ∧ Ext w w' := by
  have h := turned_any os (casP c) (lostI c) (rcL c (casO c)) t turn OA PA LA RA_ _ oc _ pc ln lc rn rc w hm.ho hm.ps hl hr (fun o ho => by
    have hmem : o.p ∈ casO c := by rw [← hm.op]; exact List.mem_map_of_mem ho
    exact sent_ok c o.p hmem) (casO_len c) (by omega) ht
  rw [hm.op] at h
  refine h.mono fun e w' ⟨v, he, h1, hx⟩ => ?_
  obtain ⟨A, k, rfl, _, _⟩ := own_slice h1
  have hlen : (turnedP (casO c) (lostI c) (rcL c (casO c)) t turn).length ≤ 8 := ownL_len c t turn
  refine ⟨A, _, k, he, RA.of_own h1 rfl (by omega), hlen, ?_, hx⟩
  rcases own_nil_or h1 with ⟨h2, h3, h4, _⟩ | ⟨g, h3, _⟩
  · exact .inl ⟨h2, h3, h4⟩
  · exact .inr ⟨g, h3⟩
theorem rec_odd_cas (c : Cas) (t : Int) (r : Rcp) (k : Nat) (OA PA SA QA NA : Option Addr) (oc pc sc qn qc nn nc : Nat) (os : List Opt) (w : World) (hm : MadeR w c OA PA SA oc pc sc os) (hq : RA rcpCells 3 w w.heap.size QA qn qc ((ownL c t 0).take k ++ r :: (ownL c t 0).drop k)) (hn : RA nteCells 3 w w.heap.size NA nn nc (toldL c t [])) (ht : 0 ≤ t ∧ t ≤ 1000000) (hk : k ≤ (ownL c t 0).length) (hr : ((casO c).length : Int) ≤ r.im ∨ 20000 ≤ r.at_) :
    Calls Try.prog 16 #[.slice OA (casO c).length oc, .slice PA (casP c).length pc, .slice SA 3 sc, .slice QA qn qc, .slice NA nn nc, .int .i64 t] w fun e w' =>
      ∃ FA fc DA dc fs, e = .returned (.tuple #[.slice FA (casO c).length fc, .slice DA 1 dc, .int .i64 0]) ∧ Fts w' w'.heap.size FA (casO c).length fc fs ∧ fs.map (·.p) = (casO c).map (trueF c t (toldL c t [])) ∧ RA dscCells 3 w' w'.heap.size DA 1 dc [⟨1, r.im, (k : Int)⟩] ∧ Ext w w' := by
  have ho := odd_none c t r hr
  have hl : ((ownL c t 0).take k ++ r :: (ownL c t 0).drop k).length ≤ 60 := by
    have := ownL_len c t 0
    rw [List.length_append, List.length_cons, List.length_take, List.length_drop]
    omega
  have h := rec_cas c t [] _ OA PA SA QA NA oc pc sc qn qc nn nc os w hm hq hn (odd_rcpts c t 0 r k ho) hl ht
  rw [odd_strD c t 0 r k hk ho] at h
  exact h
theorem rec_twice_cas (c : Cas) (t : Int) (OA PA SA QA NA : Option Addr) (oc pc sc qn qc nn nc : Nat) (os : List Opt) (w : World) (hm : MadeR w c OA PA SA oc pc sc os) (hq : RA rcpCells 3 w w.heap.size QA qn qc (ownL c t 0 ++ ownL c t 0)) (hn : RA nteCells 3 w w.heap.size NA nn nc (toldL c t [])) (ht : 0 ≤ t ∧ t ≤ 1000000) :
    Calls Try.prog 16 #[.slice OA (casO c).length oc, .slice PA (casP c).length pc, .slice SA 3 sc, .slice QA qn qc, .slice NA nn nc, .int .i64 t] w fun e w' =>
      ∃ FA fc DA dc fs, e = .returned (.tuple #[.slice FA (casO c).length fc, .slice DA 0 dc, .int .i64 0]) ∧ Fts w' w'.heap.size FA (casO c).length fc fs ∧ fs.map (·.p) = (casO c).map (trueF c t (toldL c t [])) ∧ Ext w w' := by
  have hl : (ownL c t 0 ++ ownL c t 0).length ≤ 60 := by
    have := ownL_len c t 0
    rw [List.length_append]
    omega
  have h := rec_cas c t [] _ OA PA SA QA NA oc pc sc qn qc nn nc os w hm hq hn (twice_rcpts c t 0) hl ht
  rw [twice_strD c t 0] at h
  exact h.mono fun e w' ⟨FA, fc, DA, dc, fs, h1, h2, h3, _, h5⟩ => ⟨FA, fc, DA, dc, fs, h1, h2, h3, h5⟩
theorem sameF_true (A1 A2 : Option Addr) (n1 n2 c1 c2 : Nat) (xs ys : List Fte) (w W : World) (h1 : Fts w w.heap.size A1 n1 c1 xs) (h2 : Fts w w.heap.size A2 n2 c2 ys) (he : xs.map (·.p) = ys.map (·.p)) (hW : Ext w W) :
    Calls Try.prog 18 #[.slice A1 n1 c1, .slice A2 n2 c2] W fun e w' => e = .returned (.bool true) ∧ Ext W w' := by
  have h := sameF_any A1 A2 n1 n2 c1 c2 xs ys W (h1.ext hW) (h2.ext hW)
  rw [decide_eq_true he] at h
  exact h
end Go.Proofs.Ytmlabgmigakcbaa
