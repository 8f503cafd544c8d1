/- The iterator over spells. -/
import Derived.Test.YtlmpmhfbjblhnaaA16
namespace Go.Proofs.Ytlmpmhfbjblhnaa
open Go.RowKit Go.Shelf
attribute [local go_sem] Oper.semAt_some

set_option maxRecDepth 100000 in
set_option maxHeartbeats 2000000 in
theorem spells1_in (ex : Nat → Prop) (B0 g : Nat) (caps : Array Value) (is : Int → Bool) (fr tt : Int) (bf bt bi : Nat) (n : Nat) (w : World) (hex : ∀ k, ex k → k < B0) (hB0 : B0 ≤ w.heap.size)
    (eg : ∀ args w, (callFunc g args).run Try.prog w = .ok (.enter g args) w)
    (kf : Blk w bf 3 #[.int .i64 fr]) (kt : Blk w bt 3 #[.int .i64 tt]) (ki : Blk w bi 96 #[.func (.func g) #[] caps]) (hf : ¬ ex bf ∧ bf < B0) (ht : ¬ ex bt ∧ bt < B0) (hi : ¬ ex bi ∧ bi < B0)
    (b1 : -1000000 ≤ fr) (b2 : fr ≤ tt) (b3 : tt ≤ 10000000)
    (hp : ∀ t W, fr ≤ t → t < tt → KpS ex B0 w W → Calls Try.prog g (#[.int .i64 t] ++ caps) W fun e W' => e = .returned (.bool (is t)) ∧ Below W.heap.size W W') :
    SeqStopsK Fence.wide n Try.prog 82 #[.pointer (some ⟨bf, 0, none⟩), .pointer (some ⟨bt, 0, none⟩), .pointer (some ⟨bi, 0, none⟩)] (fun s : BSpl => #[.agg #[.int .i64 s.1.fr, .int .i64 s.1.tt]]) (KpS ex B0)
      (fun xs => xs.map (·.1) = spellsP is fr (tt - fr).toNat) (fun pre => pre.map (·.1) <+: spellsP is fr (tt - fr).toNat) (spellsP is fr (tt - fr).toNat).length w := by
  intro l J Jx W hW hJ hJx hY h0
  refine callsIn_of_wp Try.func82 rfl trivial ?_ rfl
  simp only [Try.ntmps82, List.size_toArray, List.length_cons, List.length_nil, Nat.reduceAdd, Nat.reduceSub, Array.replicate_succ, Array.replicate_zero, List.push_toArray, List.append_toArray, List.nil_append, List.cons_append]
  have HP := Lib.hid hp
  have HY := Lib.hid hY
  have HJ := Lib.hid hJ
  have HEX := Lib.hid hex
  have hKW : KpS ex B0 w W := KpS.ext hW
  have hWs : W.heap.size ≤ W.heap.size := Nat.le_refl _
  have hw0 : w.heap.size ≤ W.heap.size := hW.size
  have c0 : W.cell? ⟨bf, 0, none⟩ = some (.int .i64 fr) := (hKW.blk_ kf hf.1 (.inl hf.2)).cell 0
  have HS0 : Hid (([] : List BSpl).map (·.1) ++ spellsP is fr (tt - fr).toNat = spellsP is fr (tt - fr).toNat) := Lib.hid rfl
  clear hp hY hJ hex hJx
  gi_wp2
  gi_loopw [5] (fun v wr => ∃ (t : Int) (pre : List BSpl), v = .int .i64 t ∧ fr ≤ t ∧ t ≤ tt + 1 ∧ Hid (pre.map (·.1) ++ spellsP is t (tt - t).toNat = spellsP is fr (tt - fr).toNat) ∧ J pre wr ∧ KpS ex B0 w wr ∧ W.heap.size ≤ wr.heap.size)
    (fun v _ => (tt + 1 - intOf v).toNat)
  case atStart => exact ⟨fr, [], rfl, by omega, by omega, HS0, h0, hKW, hWs⟩
  case round =>
    clear HS0 h0 hKW c0
    obtain ⟨t, pre, rfl, ht1, ht2, HS, hJp, hK, hsz⟩ := hrel
    have c1 : wr.cell? ⟨bt, 0, none⟩ = some (.int .i64 tt) := (hK.blk_ kt ht.1 (.inl ht.2)).cell 0
    have c2 : wr.cell? ⟨bi, 0, none⟩ = some (.func (.func g) #[] caps) := (hK.blk_ ki hi.1 (.inl hi.2)).cell 0
    by_cases hlt : t < tt
    · have hcall := HP.out t wr ht1 hlt hK
      obtain ⟨q, hq⟩ : ∃ q, q = is t := ⟨_, rfl⟩
      rw [← hq] at hcall
      have HC := Lib.hid hcall
      have HQ := Lib.hid hq
      clear hcall hq
      gi_wp2_with fail
      refine ⟨trivial, (fun h => by cases h), (callsIn_wide.2 HC.out).mono ?_⟩
      rintro e W2 ⟨rfl, hb2⟩
      have hK2 : KpS ex B0 w W2 := hK.trans (KpS.ext hb2)
      have hJ2 : J pre W2 := HJ.out _ _ _ none hJp (ext_grown hb2) (fun r e => by cases e)
      have hsz2 : W.heap.size ≤ W2.heap.size := Nat.le_trans hsz hb2.size
      clear HC hJp hK hsz c1 c2 hb2
      have c1 : W2.cell? ⟨bt, 0, none⟩ = some (.int .i64 tt) := (hK2.blk_ kt ht.1 (.inl ht.2)).cell 0
      have c2 : W2.cell? ⟨bi, 0, none⟩ = some (.func (.func g) #[] caps) := (hK2.blk_ ki hi.1 (.inl hi.2)).cell 0
      cases q
      · gi_wp2
        go_roundw
        case rel => exact ⟨t + 1, pre, rfl, by omega, by omega, Lib.hid (by rw [← HS.out, show (tt - t).toNat = (tt - (t + 1)).toNat + 1 by omega, spells_skip _ HQ.out.symm]), hJ2, hK2, hsz2⟩
        case measure => simp [intOf]; omega
      · gi_wp2_with fail
        have K3 := Blk.new W2 34 #[.int .i64 t, .int .i64 t]
        have hx3 : Ext W2 (W2.alloc (.cells #[.int .i64 t, .int .i64 t] 34)) := bl_alloc (Below.refl _ _) _
        obtain ⟨gb, hgb⟩ : ∃ gb, gb = W2.heap.size := ⟨_, rfl⟩
        rw [← hgb] at K3 ⊢
        generalize W2.alloc (.cells #[.int .i64 t, .int .i64 t] 34) = W3 at K3 hx3 ⊢
        have HX3 := Lib.hid hx3
        have HG := Lib.hid hgb
        have HT := Lib.hid HQ.out
        clear hx3 hgb c1 c2
        gi_loopw [20] (fun _ wi => ∃ k : Nat, t + k ≤ tt ∧ Hid (∀ i : Nat, i < k → is (t + i) = true) ∧ Blk wi gb 34 #[.int .i64 t, .int .i64 (t + k)] ∧ Ext W2 wi) (fun _ wi => match wi.cell? ⟨gb, 1, none⟩ with | some u => (tt - intOf u).toNat | none => 0)
        case atStart => exact ⟨0, by omega, Lib.hid (fun i hi => absurd hi (by omega)), by simpa using K3, HX3.out⟩
        case round =>
          clear K3 HX3
          obtain ⟨k, hk, HI, Ki, hxi⟩ := hrel
          have hKi : KpS ex B0 w wr := hK2.trans (KpS.ext hxi)
          have hgB : ¬ ex gb := fun h => by have := HEX.out _ h; have := HG.out; omega
          have c1 : wr.cell? ⟨bt, 0, none⟩ = some (.int .i64 tt) := (hKi.blk_ kt ht.1 (.inl ht.2)).cell 0
          have c2 : wr.cell? ⟨bi, 0, none⟩ = some (.func (.func g) #[] caps) := (hKi.blk_ ki hi.1 (.inl hi.2)).cell 0
          have c3 : wr.cell? ⟨gb, 0, none⟩ = some (.int .i64 t) := Ki.cell 0
          have c4 : wr.cell? ⟨gb, 1, none⟩ = some (.int .i64 (t + k)) := Ki.cell 1
          have c5 : wr.frozen? ⟨gb, 1, none⟩ = false := Ki.frozen 1
          by_cases hlk : t + k < tt
          · have hcall := HP.out (t + k) wr (by omega) hlk hKi
            obtain ⟨q, hq⟩ : ∃ q, q = is (t + k) := ⟨_, rfl⟩
            rw [← hq] at hcall
            have HC := Lib.hid hcall
            have HQ2 := Lib.hid hq
            clear hcall hq
            gi_wp2_with fail
            refine ⟨trivial, (fun h => by cases h), (callsIn_wide.2 HC.out).mono ?_⟩
            rintro e W4 ⟨rfl, hb4⟩
            have hx4 : Ext W2 W4 := hxi.trans hb4
            have hK4 : KpS ex B0 w W4 := hK2.trans (KpS.ext hx4)
            have K4 := Ki.ext hb4
            clear HC c1 c2 c3 c4 c5 hb4 hKi
            cases q
            · have HE : Hid (k = (tt - t).toNat ∨ is (t + k) = false) := Lib.hid (.inr HQ2.out.symm)
              have hk1 : 1 ≤ k := by
                rcases Nat.eq_zero_or_pos k with h0 | h0
                · rcases HE.out with h | h
                  · omega
                  · rw [h0, show t + ((0 : Nat) : Int) = t by omega, ← HT.out] at h; cases h
                · exact h0
              have hrun := spells_run is k (tt - t).toNat t hk1 (by omega) HI.out HE.out
              have hJ4 : J pre W4 := HJ.out _ _ _ none hJ2 (ext_grown hx4) (fun r e => by cases e)
              have hlen : pre.length < (spellsP is fr (tt - fr).toNat).length := by rw [← HS.out, hrun]; simp
              have hbd : -1000000 ≤ t ∧ t ≤ 10000000 ∧ -1000000 ≤ t + k ∧ t + k ≤ 10000000 := by omega
              have hnew : ((pre ++ [(⟨⟨t, t + k⟩, hbd⟩ : BSpl)]).map (·.1)) ++ spellsP is (t + k + 1) (tt - (t + k + 1)).toNat = spellsP is fr (tt - fr).toNat := by
                rw [← HS.out, hrun, List.map_append, List.append_assoc, List.map_singleton, List.singleton_append]
                congr 2
                rcases HE.out with h | h
                · rw [show (tt - (t + k + 1)).toNat = 0 by omega, show (tt - t).toNat - k = 0 by omega]; rfl
                · by_cases he : k = (tt - t).toNat
                  · rw [show (tt - (t + k + 1)).toNat = 0 by omega, show (tt - t).toNat - k = 0 by omega]; rfl
                  · rw [show (tt - t).toNat - k = (tt - (t + k + 1)).toNat + 1 by omega, spells_skip _ h]
              have hpre : (pre ++ [(⟨⟨t, t + k⟩, hbd⟩ : BSpl)]).map (·.1) <+: spellsP is fr (tt - fr).toNat := ⟨_, hnew⟩
              have HN := Lib.hid hnew
              have HPRE := Lib.hid hpre
              have c3 : W4.cell? ⟨gb, 0, none⟩ = some (.int .i64 t) := K4.cell 0
              have c4 : W4.cell? ⟨gb, 1, none⟩ = some (.int .i64 (t + k)) := K4.cell 1
              obtain ⟨fn, tmps, assign, body, hy, hR⟩ := HY.out pre ⟨⟨t, t + k⟩, hbd⟩ W4 hJ4 hlen
              dsimp only at hy
              clear hrun hnew hpre
              gi_wp2_with fail
              refine ⟨(fun h => by cases h), hR.mono ?_⟩
              rintro e W5 (⟨rfl, hJ5, hk5⟩ | ⟨rfl, hJx5⟩)
              · have K5 := hk5.blk_ K4 hgB (.inr rfl)
                have c4 : W5.cell? ⟨gb, 1, none⟩ = some (.int .i64 (t + k)) := K5.cell 1
                have hK5 : KpS ex B0 w W5 := (hK2.trans (KpS.ext hx4)).trans hk5
                have hz5 : W.heap.size ≤ W5.heap.size := Nat.le_trans hsz2 (Nat.le_trans (Below.size hx4) hk5.size)
                clear hy hR c3 hk5
                gi_wp2
                go_roundw
                case rel => exact ⟨t + k + 1, _, rfl, by omega, by omega, HN, hJ5, hK5, hz5⟩
                case measure => simp [intOf]; omega
              · gi_wp2
                refine bodyPost_ret (results_none rfl _ _ _) rfl ?_
                exact ⟨⟨_, rfl⟩, .inr ⟨_, HPRE.out, hJx5⟩⟩
            · have c4 : W4.cell? ⟨gb, 1, none⟩ = some (.int .i64 (t + k)) := K4.cell 1
              have c5 : W4.frozen? ⟨gb, 1, none⟩ = false := K4.frozen 1
              have hm1 : (match wr.cell? ⟨gb, 1, none⟩ with | some u => (tt - intOf u).toNat | none => 0) = (tt - (t + k)).toNat := by rw [show wr.cell? ⟨gb, 1, none⟩ = some (.int .i64 (t + k)) from Ki.cell 1]; rfl
              have K5 : Blk (W4.setCell ⟨gb, 1, none⟩ (.int .i64 (t + k + 1))) gb 34 #[.int .i64 t, .int .i64 (t + k + 1)] := K4.set_ 1 _
              have hm2 : (match (W4.setCell ⟨gb, 1, none⟩ (.int .i64 (t + k + 1))).cell? ⟨gb, 1, none⟩ with | some u => (tt - intOf u).toNat | none => 0) = (tt - (t + k + 1)).toNat := by rw [show (W4.setCell ⟨gb, 1, none⟩ (.int .i64 (t + k + 1))).cell? ⟨gb, 1, none⟩ = some (.int .i64 (t + k + 1)) from K5.cell 1]; rfl
              have hx5 : Ext W2 (W4.setCell ⟨gb, 1, none⟩ (.int .i64 (t + k + 1))) := hx4.setCell (p := ⟨gb, 1, none⟩) (by have := HG.out; exact Nat.le_of_eq this.symm) _
              have HM1 := Lib.hid hm1
              have HM2 := Lib.hid hm2
              have HX5 := Lib.hid hx5
              have HK5 := Lib.hid K5
              clear hm1 hm2 hx5 K5
              gi_wp2
              go_roundw
              case rel => exact ⟨k + 1, by omega, Lib.hid (fun i hi => by rcases Nat.lt_or_ge i k with h | h; exact HI.out i h; rw [show i = k by omega]; exact HQ2.out.symm), by rw [show t + ((k + 1 : Nat) : Int) = t + k + 1 by omega]; exact HK5.out, HX5.out⟩
              case measure => rw [HM1.out, HM2.out]; omega
          · have HE : Hid (k = (tt - t).toNat ∨ is (t + k) = false) := Lib.hid (.inl (by omega))
            have hd : decide (t + k < tt) = false := by simpa using hlk
            clear c3 c4 c5
            have hk1 : 1 ≤ k := by
              rcases Nat.eq_zero_or_pos k with h0 | h0
              · rcases HE.out with h | h
                · omega
                · rw [h0, show t + ((0 : Nat) : Int) = t by omega, ← HT.out] at h; cases h
              · exact h0
            have hrun := spells_run is k (tt - t).toNat t hk1 (by omega) HI.out HE.out
            have hJ4 : J pre wr := HJ.out _ _ _ none hJ2 (ext_grown hxi) (fun r e => by cases e)
            have hlen : pre.length < (spellsP is fr (tt - fr).toNat).length := by rw [← HS.out, hrun]; simp
            have hbd : -1000000 ≤ t ∧ t ≤ 10000000 ∧ -1000000 ≤ t + k ∧ t + k ≤ 10000000 := by omega
            have hnew : ((pre ++ [(⟨⟨t, t + k⟩, hbd⟩ : BSpl)]).map (·.1)) ++ spellsP is (t + k + 1) (tt - (t + k + 1)).toNat = spellsP is fr (tt - fr).toNat := by
              rw [← HS.out, hrun, List.map_append, List.append_assoc, List.map_singleton, List.singleton_append]
              congr 2
              rcases HE.out with h | h
              · rw [show (tt - (t + k + 1)).toNat = 0 by omega, show (tt - t).toNat - k = 0 by omega]; rfl
              · by_cases he : k = (tt - t).toNat
                · rw [show (tt - (t + k + 1)).toNat = 0 by omega, show (tt - t).toNat - k = 0 by omega]; rfl
                · rw [show (tt - t).toNat - k = (tt - (t + k + 1)).toNat + 1 by omega, spells_skip _ h]
            have hpre : (pre ++ [(⟨⟨t, t + k⟩, hbd⟩ : BSpl)]).map (·.1) <+: spellsP is fr (tt - fr).toNat := ⟨_, hnew⟩
            have HN := Lib.hid hnew
            have HPRE := Lib.hid hpre
            have c3 : wr.cell? ⟨gb, 0, none⟩ = some (.int .i64 t) := Ki.cell 0
            have c4 : wr.cell? ⟨gb, 1, none⟩ = some (.int .i64 (t + k)) := Ki.cell 1
            obtain ⟨fn, tmps, assign, body, hy, hR⟩ := HY.out pre ⟨⟨t, t + k⟩, hbd⟩ wr hJ4 hlen
            dsimp only at hy
            clear hrun hnew hpre
            gi_wp2_with fail
            refine ⟨fun _ h => (by cases h), ?_⟩
            gi_wp2_with fail
            refine ⟨(fun h => by cases h), hR.mono ?_⟩
            rintro e W5 (⟨rfl, hJ5, hk5⟩ | ⟨rfl, hJx5⟩)
            · have K5 := hk5.blk_ Ki hgB (.inr rfl)
              have c4 : W5.cell? ⟨gb, 1, none⟩ = some (.int .i64 (t + k)) := K5.cell 1
              have hK5 : KpS ex B0 w W5 := (hK2.trans (KpS.ext hxi)).trans hk5
              have hz5 : W.heap.size ≤ W5.heap.size := Nat.le_trans hsz2 (Nat.le_trans (Below.size hxi) hk5.size)
              clear hy hR c3 hk5
              gi_wp2
              go_roundw
              case rel => exact ⟨t + k + 1, _, rfl, by omega, by omega, HN, hJ5, hK5, hz5⟩
              case measure => simp [intOf]; omega
            · gi_wp2
              refine bodyPost_ret (results_none rfl _ _ _) rfl ?_
              exact ⟨⟨_, rfl⟩, .inr ⟨_, HPRE.out, hJx5⟩⟩
    · gi_wp2
      go_end0
      exact ⟨⟨_, rfl⟩, .inl ⟨pre, by rw [← HS.out, show (tt - t).toNat = 0 by omega]; simp [spellsP], hJp⟩⟩

end Go.Proofs.Ytlmpmhfbjblhnaa
