/- What building needs: sets of options as bits, states that were met, the boxes of the functions. -/
import Derived.Test.YtikphbgfcpamgaaP18
import Derived.Test.YtikphbgfcpamgaaP03
namespace Go.Proofs.Ytikphbgfcpamgaa
open Go.RowKit

theorem bit_i64 : ∀ (S : Fin 256) (i : Fin 8), bits BinOp.and IntKind.i64 ((S.val : Int) / 2 ^ i.val) 1 = if S.val.testBit i.val then 1 else 0 := by decide +kernel
theorem or_i64 : ∀ (S : Fin 256) (i : Fin 8), bits BinOp.or IntKind.i64 (S.val : Int) ((2 : Int) ^ i.val) = ((S.val ||| 2 ^ i.val : Nat) : Int) ∧ S.val ||| 2 ^ i.val < 256 := by decide +kernel
def PS (ps : List Plc) (X : DT) : Prop := ∃ i d, i ≤ ps.length ∧ d < 256 ∧ X = dt (ps.drop i) d
theorem subs_dt {ps : List Plc} (h8 : ∀ p ∈ ps, p.opt < 8) : ∀ (n i d : Nat), i + n = ps.length → d < 256 → ∀ X ∈ subs (dt (ps.drop i) d), PS ps X := by
  intro n
  induction n with
  | zero =>
    intro i d hi hd X hX
    rw [List.drop_of_length_le (by omega)] at hX
    cases hX
  | succ n ih =>
    intro i d hi hd X hX
    have hlt : i < ps.length := by omega
    have hp8 := h8 _ (List.getElem_mem hlt)
    have ho := (or_i64 ⟨d, hd⟩ ⟨ps[i].opt, hp8⟩).2
    dsimp only at ho
    have hD : dt (ps.drop i) d = if d.testBit ps[i].opt then dt (ps.drop (i + 1)) d else .node ps[i].fr ps[i].opt ps[i].slot (dt (ps.drop (i + 1)) d) (dt (ps.drop (i + 1)) (d ||| 2 ^ ps[i].opt)) := by
      rw [List.drop_eq_getElem_cons hlt, dt]
    rw [hD] at hX
    by_cases ht : d.testBit ps[i].opt = true
    · rw [if_pos ht] at hX
      exact ih (i + 1) d (by omega) hd X hX
    · rw [if_neg ht] at hX
      rcases List.mem_cons.1 hX with e | hX
      · exact ⟨i, d, by omega, hd, by rw [e, hD, if_neg ht]⟩
      · rcases List.mem_append.1 hX with hX | hX
        · exact ih (i + 1) d (by omega) hd X hX
        · exact ih (i + 1) _ (by omega) ho X hX
theorem ps_len {ps : List Plc} {T : List Brn} (hl : ps.length ≤ 48) (hn : T.Nodup) (h : FromP (PS ps) T) : T.length ≤ 12800 := by
  refine from_len hn h (fun j => dt (ps.drop (j / 256)) (j % 256)) fun X hX => ?_
  obtain ⟨i, d, h1, h2, h3⟩ := hX
  refine ⟨i * 256 + d, by omega, ?_⟩
  rw [show (i * 256 + d) / 256 = i by omega, show (i * 256 + d) % 256 = d by omega]
  exact h3.symm
def MetOK (ps : List Plc) (T : List Brn) (M : Stt → Option Value) : Prop := ∀ s u, M s = some u → ∃ i : Int, u = .int .i64 i ∧ Rep T i (dt (ps.drop s.at_) s.done)
theorem MetOK.grow {ps : List Plc} {T : List Brn} {M : Stt → Option Value} (h : MetOK ps T M) (D : DT) : MetOK ps (bld T D).1 M := fun s u hs => by
  obtain ⟨i, h1, h2⟩ := h s u hs
  exact ⟨i, h1, h2.grow (bld_ext D T)⟩
theorem MetOK.put {ps : List Plc} {T : List Brn} {M : Stt → Option Value} (h : MetOK ps T M) {s : Stt} {k : Int} (hr : Rep T k (dt (ps.drop s.at_) s.done)) : MetOK ps T (fun j => if j = s then some (.int .i64 k) else M j) := fun j u hj => by
  dsimp only at hj
  by_cases e : j = s
  · rw [if_pos e] at hj
    injection hj with hj
    subst e
    exact ⟨k, hj.symm, hr⟩
  · rw [if_neg e] at hj
    exact h j u hj
theorem FromP.bld {ps : List Plc} {T : List Brn} (h : FromP (PS ps) T) {D : DT} (hs : ∀ X ∈ subs D, PS ps X) : FromP (PS ps) (bld T D).1 := bld_from D T hs h

structure EnvB (W : World) (B gl gmb gfb gpb gg gm : Nat) (LA : Option Addr) (ln lc : Nat) (ps : List Plc) : Prop where
  jl : Blk W gl 73 #[.slice LA ln lc]
  jm : Blk W gmb 78 #[.map (some gm)]
  jf : Blk W gfb 79 #[.func (.func 38) #[] #[.pointer (some ⟨gl, 0, none⟩), .pointer (some ⟨gmb, 0, none⟩), .pointer (some ⟨gfb, 0, none⟩), .pointer (some ⟨gpb, 0, none⟩)]]
  jp : Blk W gpb 76 #[.pointer (some ⟨gg, 0, none⟩)]
  rl : RA plcCells 4 W B LA ln lc ps
  hB : B ≤ W.heap.size
theorem EnvB.ext {W W' : World} {B gl gmb gfb gpb gg gm : Nat} {LA : Option Addr} {ln lc : Nat} {ps : List Plc} (h : EnvB W B gl gmb gfb gpb gg gm LA ln lc ps) (hx : Ext W W') : EnvB W' B gl gmb gfb gpb gg gm LA ln lc ps :=
  ⟨h.jl.ext hx, h.jm.ext hx, h.jf.ext hx, h.jp.ext hx, h.rl.keep (fun p hp => hx.cell (by have := h.hB; omega)), Nat.le_trans h.hB hx.size⟩
theorem Grw.cell {gg gk gm : Nat} {v v' : Value} {w w' : World} (h : Grw gg gk gm v v' w w') (p : Addr) (hp : p.block < w.heap.size) (h1 : p.block ≠ gg) (h2 : p.block ≠ gk) (h3 : p.block ≠ gm) (h4 : v.ownBlock ≠ some p.block) : w'.cell? p = w.cell? p := by
  unfold World.cell?
  rw [h.block _ hp h1 h2 h3 h4]
theorem EnvB.grw {W W' : World} {B gl gmb gfb gpb gg gm gk : Nat} {LA : Option Addr} {ln lc : Nat} {ps : List Plc} {st : Int} {v v' : Value} {T : List Brn} {M : Stt → Option Value} (h : EnvB W B gl gmb gfb gpb gg gm LA ln lc ps) (g : Gr W gg gk B st v T) (m : MapK sttCells W gm M) (h1 : B ≤ gg) (h2 : B ≤ gk) (h3 : B ≤ gm) (x : Grw gg gk gm v v' W W') : EnvB W' B gl gmb gfb gpb gg gm LA ln lc ps := by
  have hb : ∀ {b : Nat} {t : TypeId} {cs : Array Value}, Blk W b t cs → t ≠ 88 → t ≠ 30 → Blk W' b t cs := fun j n1 n2 =>
    x.blk j (j.ne_ g.blk n1) (g.map.ne_blk j) (m.ne_blk j) (own_blk_ne g.row j (fun e => n2 e.symm))
  refine ⟨hb h.jl (by decide) (by decide), hb h.jm (by decide) (by decide), hb h.jf (by decide) (by decide), hb h.jp (by decide) (by decide), h.rl.keep fun p hp => x.cell p (by have := h.hB; omega) (by omega) (by omega) (by omega) (fun e => ?_), Nat.le_trans h.hB x.size⟩
  have := (World.ownsRow.lt g.row _ e).1
  omega
structure GSt (W : World) (B gl gmb gfb gpb gg gk gm : Nat) (LA : Option Addr) (ln lc : Nat) (ps : List Plc) (st : Int) (v : Value) (T : List Brn) (M : Stt → Option Value) : Prop where
  env : EnvB W B gl gmb gfb gpb gg gm LA ln lc ps
  gr : Gr W gg gk B st v T
  map : MapK sttCells W gm M
  met : MetOK ps T M
  frm : FromP (PS ps) T
theorem GSt.ext {W W' : World} {B gl gmb gfb gpb gg gk gm : Nat} {LA : Option Addr} {ln lc : Nat} {ps : List Plc} {st : Int} {v : Value} {T : List Brn} {M : Stt → Option Value} (h : GSt W B gl gmb gfb gpb gg gk gm LA ln lc ps st v T M) (hx : Ext W W') : GSt W' B gl gmb gfb gpb gg gk gm LA ln lc ps st v T M :=
  ⟨h.env.ext hx, h.gr.ext hx, h.map.ext hx, h.met, h.frm⟩
def GrowRet (B gl gmb gfb gpb gg gk gm : Nat) (LA : Option Addr) (ln lc : Nat) (ps : List Plc) (st : Int) (v : Value) (X : List Brn × Int) (w : World) (e : Ending) (w' : World) : Prop := ∃ v' M', e = .returned (.int .i64 X.2) ∧ GSt w' B gl gmb gfb gpb gg gk gm LA ln lc ps st v' X.1 M' ∧ Grw gg gk gm v v' w w'
theorem pos_put (T : List Brn) (b : Brn) : pos b (put T b) = pos b T := by
  unfold put
  by_cases h : b ∈ T
  · rw [if_pos h]
  · rw [if_neg h, pos_none h]
    induction T with
    | nil => simp [pos]
    | cons x r ih =>
      simp only [List.cons_append, pos, List.length_cons]
      rw [if_neg (fun e => h (by simp [e])), ih (fun e => h (by simp [e]))]
theorem put_put (T : List Brn) (b : Brn) : put (put T b) b = put T b := by
  have h : b ∈ put T b := by
    have := put_pos T b
    exact List.mem_of_getElem? this
  rw [put, if_pos h]
theorem GSt.blk {W W' : World} {B gl gmb gfb gpb gg gk gm : Nat} {LA : Option Addr} {ln lc : Nat} {ps : List Plc} {st : Int} {v v' : Value} {T : List Brn} {M : Stt → Option Value} (h : GSt W B gl gmb gfb gpb gg gk gm LA ln lc ps st v T M) (x : Grw gg gk gm v v' W W') {b : Nat} {t : TypeId} {cs : Array Value} (j : Blk W b t cs) (n1 : t ≠ 88) (n2 : t ≠ 30) : Blk W' b t cs :=
  x.blk j (j.ne_ h.gr.blk n1) (h.gr.map.ne_blk j) (h.map.ne_blk j) (own_blk_ne h.gr.row j (fun e => n2 e.symm))
structure FT (N0 : Nat) (S : Nat → Prop) (F : World → Prop) (w w' : World) : Prop where
  os : w'.os = w.os
  tape : w'.tape = w.tape
  output : w'.output = w.output
  size : w.heap.size ≤ w'.heap.size
  oth : ∀ i, i < N0 → ¬ S i → w'.heap[i]? = w.heap[i]?
  fin : F w → F w'
  orr : Ext w w' ∨ F w'
theorem ft_tr (N0 : Nat) (S : Nat → Prop) (F : World → Prop) : RB.Tr (FT N0 S F) :=
  ⟨fun w => ⟨rfl, rfl, rfl, Nat.le_refl _, fun _ _ _ => rfl, fun h => h, .inl (Ext.refl w)⟩, fun {a b c} h k => ⟨k.os.trans h.os, k.tape.trans h.tape, k.output.trans h.output, Nat.le_trans h.size k.size, fun i hi hs => (k.oth i hi hs).trans (h.oth i hi hs), fun x => k.fin (h.fin x), by
    rcases k.orr with e | e
    · rcases h.orr with e2 | e2
      · exact .inl (Ext.trans e2 e)
      · exact .inr (k.fin e2)
    · exact .inr e⟩⟩
theorem FT.cell {N0 : Nat} {S : Nat → Prop} {F : World → Prop} {w w' : World} (h : FT N0 S F w w') {p : Addr} {v : Value} (hc : w.cell? p = some v) (hp : p.block < N0) (hs : ¬ S p.block) : w'.cell? p = some v := by
  rw [← hc]
  unfold World.cell?
  rw [h.oth _ hp hs]
theorem FT.blk {N0 : Nat} {S : Nat → Prop} {F : World → Prop} {w w' : World} (h : FT N0 S F w w') {b : Nat} {t : TypeId} {cs : Array Value} (j : Blk w b t cs) (hp : b < N0) (hs : ¬ S b) : Blk w' b t cs := (h.oth b hp hs).trans j
def FinB (gg gk base : Nat) (st : Int) (v : Value) (T2 : List Brn) (N0 : Nat) (W : World) : Prop := ∃ v', Gr W gg gk base st v' T2 ∧ ∀ g, v'.ownBlock = some g → v.ownBlock = some g ∨ N0 ≤ g
theorem FT.undrew {N0 : Nat} {S : Nat → Prop} {gg gk base : Nat} {st : Int} {v : Value} {T2 : List Brn} {M0 : Nat} {w w' : World} (h : FT N0 S (FinB gg gk base st v T2 M0) w.drew w') : FT N0 S (FinB gg gk base st v T2 M0) w w' :=
  ⟨h.os, h.tape, h.output, h.size, h.oth, fun x => h.fin (by obtain ⟨v', g, o⟩ := x; exact ⟨v', ⟨g.blk, g.row, g.map, g.nd⟩, o⟩), by rcases h.orr with e | e; exact .inl e.undrew; exact .inr e⟩
def SB (gg gk : Nat) (v : Value) (i : Nat) : Prop := i = gg ∨ i = gk ∨ v.ownBlock = some i
theorem branch_ft {gg gk base : Nat} {st : Int} {v : Value} {T : List Brn} (b : Brn) {W0 w1 : World} (h : Gr W0 gg gk base st v T) (hn : T.length ≤ 800000) (hb : base ≤ W0.heap.size) (hx : FT W0.heap.size (SB gg gk v) (FinB gg gk base st v (put T b) W0.heap.size) W0 w1) :
    Calls Try.prog 39 #[.pointer (some ⟨gg, 0, none⟩), .agg (brnCells b).toArray] w1 fun e w' => e = .returned (.int .i64 (pos b T : Nat)) ∧ FT W0.heap.size (SB gg gk v) (FinB gg gk base st v (put T b) W0.heap.size) w1 w' ∧ FinB gg gk base st v (put T b) W0.heap.size w' := by
  rcases hx.orr with e | ⟨v1, g1, o1⟩
  · refine (branch_any gg gk gk base st v T b w1 (h.ext e) (by omega) (Nat.le_trans hb hx.size)).mono ?_
    rintro e' w' ⟨v', rfl, hg, hw⟩
    have hf : FinB gg gk base st v (put T b) W0.heap.size w' := ⟨v', hg, fun g hgv => by
      rcases hw.own g hgv with e2 | e2
      · exact .inl e2
      · exact .inr (Nat.le_trans hx.size e2)⟩
    exact ⟨rfl, ⟨hw.os, hw.tape, hw.output, hw.size, fun i hi hs => hw.block i (Nat.lt_of_lt_of_le hi hx.size) (fun e => hs (.inl e)) (fun e => hs (.inr (.inl e))) (fun e => hs (.inr (.inl e))) (fun e => hs (.inr (.inr e))), fun _ => hf, .inr hf⟩, hf⟩
  · have hl : (put T b).length ≤ 900000 := by
      unfold put
      split
      · omega
      · simp; omega
    refine (branch_any gg gk gk base st v1 (put T b) b w1 g1 hl (Nat.le_trans hb hx.size)).mono ?_
    rintro e' w' ⟨v', rfl, hg, hw⟩
    rw [put_put] at hg
    have hf : FinB gg gk base st v (put T b) W0.heap.size w' := ⟨v', hg, fun g hgv => by
      rcases hw.own g hgv with e2 | e2
      · exact o1 g e2
      · exact .inr (Nat.le_trans hx.size e2)⟩
    refine ⟨by rw [pos_put], ⟨hw.os, hw.tape, hw.output, hw.size, fun i hi hs => hw.block i (Nat.lt_of_lt_of_le hi hx.size) (fun e => hs (.inl e)) (fun e => hs (.inr (.inl e))) (fun e => hs (.inr (.inl e))) (fun e => ?_), fun _ => hf, .inr hf⟩, hf⟩
    rcases o1 i e with e2 | e2
    · exact hs (.inr (.inr e2))
    · omega
theorem GSt.nS {W : World} {B gl gmb gfb gpb gg gk gm : Nat} {LA : Option Addr} {ln lc : Nat} {ps : List Plc} {st : Int} {v : Value} {T : List Brn} {M : Stt → Option Value} (h : GSt W B gl gmb gfb gpb gg gk gm LA ln lc ps st v T M) {b : Nat} {t : TypeId} {cs : Array Value} (j : Blk W b t cs) (n1 : t ≠ 88) (n2 : t ≠ 30) : ¬ SB gg gk v b := fun e => by
  rcases e with e | e | e
  · exact j.ne_ h.gr.blk n1 e
  · exact h.gr.map.ne_blk j e
  · exact own_blk_ne h.gr.row j (fun e => n2 e.symm) e
theorem GSt.env_ft {W W' : World} {B gl gmb gfb gpb gg gk gm : Nat} {LA : Option Addr} {ln lc : Nat} {ps : List Plc} {st : Int} {v : Value} {T : List Brn} {M : Stt → Option Value} {F : World → Prop} (h : GSt W B gl gmb gfb gpb gg gk gm LA ln lc ps st v T M) (h1 : B ≤ gg) (h2 : B ≤ gk) (x : FT W.heap.size (SB gg gk v) F W W') : EnvB W' B gl gmb gfb gpb gg gm LA ln lc ps := by
  have hb : ∀ {b : Nat} {t : TypeId} {cs : Array Value}, Blk W b t cs → t ≠ 88 → t ≠ 30 → Blk W' b t cs := fun j n1 n2 => x.blk j j.lt (h.nS j n1 n2)
  refine ⟨hb h.env.jl (by decide) (by decide), hb h.env.jm (by decide) (by decide), hb h.env.jf (by decide) (by decide), hb h.env.jp (by decide) (by decide), h.env.rl.keep fun p hp => ?_, Nat.le_trans h.env.hB x.size⟩
  unfold World.cell?
  rw [x.oth p.block (by have := h.env.hB; omega) (fun e => by
    rcases e with e | e | e
    · omega
    · omega
    · have := (World.ownsRow.lt h.gr.row _ e).1; omega)]
theorem EnvB.mapd {W W' : World} {B gl gmb gfb gpb gg gm : Nat} {LA : Option Addr} {ln lc : Nat} {ps : List Plc} {M : Stt → Option Value} (h : EnvB W B gl gmb gfb gpb gg gm LA ln lc ps) (m : MapK sttCells W gm M) (h3 : B ≤ gm) (x : W.grownBy W' (some gm)) : EnvB W' B gl gmb gfb gpb gg gm LA ln lc ps := by
  have hb : ∀ {b : Nat} {t : TypeId} {cs : Array Value}, Blk W b t cs → Blk W' b t cs := fun j => j.grown x (fun e => m.ne_blk j (by injection e))
  refine ⟨hb h.jl, hb h.jm, hb h.jf, hb h.jp, h.rl.keep fun p hp => ?_, Nat.le_trans h.hB x.size⟩
  unfold World.cell?
  rw [x.block p.block (by have := h.hB; omega) (fun e => by injection e with e; omega)]
end Go.Proofs.Ytikphbgfcpamgaa
