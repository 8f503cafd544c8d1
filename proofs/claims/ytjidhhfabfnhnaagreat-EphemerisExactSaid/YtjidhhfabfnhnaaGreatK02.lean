/- The cell of a satellite. -/
import Derived.Test.YtjidhhfabfnhnaaGreatK01
import Derived.ArgAppend
import Derived.BigRegion
import Derived.Laws.Small
import Derived.Laws.Cover1
namespace Go.Proofs.YtjidhhfabfnhnaaGreat
open Go.RowKit Go.Shelf
attribute [local go_sem] Oper.semAt_some
set_option maxRecDepth 100000 in
set_option maxHeartbeats 2000000 in
theorem spells1_in (ex : Nat → Prop) (B0 g : Nat) (caps : Array Value) (is : Int → Bool) (fr tt : Int) (bf bt bi : Nat) (n : Nat) (w : World) (hex : ∀ k,ex k → k < B0) (hB0 : B0 ≤ w.heap.size)
  (eg : ∀ args w,(callFunc g args).run Tryz.prog w = .ok (.enter g args) w)
  (kf : Blk w bf 3 #[.int .i64 fr]) (kt : Blk w bt 3 #[.int .i64 tt]) (ki : Blk w bi 147 #[.func (.func g) #[] caps]) (hf : ¬ ex bf ∧ bf < B0) (ht : ¬ ex bt ∧ bt < B0) (hi : ¬ ex bi ∧ bi < B0)
  (b1 : -1000000 ≤ fr) (b2 : fr ≤ tt) (b3 : tt ≤ 10000000)
  (hp : ∀ t W,fr ≤ t → t < tt → KpS ex B0 w W → Calls Tryz.prog g (#[.int .i64 t] ++ caps) W fun e W' => e = .returned (.bool (is t)) ∧ Below W.heap.size W W') :
  SeqStopsK Fence.wide n Tryz.prog 141 #[.pointer (some ⟨bf,0,none⟩),.pointer (some ⟨bt,0,none⟩),.pointer (some ⟨bi,0,none⟩)] (fun s : BSpl => #[.agg #[.int .i64 s.1.fr,.int .i64 s.1.tt]]) (KpS ex B0)
   (fun xs => xs.map (·.1) = spellsP is fr (tt - fr).toNat) (fun pre => pre.map (·.1) <+: spellsP is fr (tt - fr).toNat) (spellsP is fr (tt - fr).toNat).length w:=by
 intro l J Jx W hW hJ hJx hY h0
 refine callsIn_of_wp Tryz.func141 rfl trivial ?_ rfl
 simp only [Tryz.ntmps141,List.size_toArray,List.length_cons,List.length_nil,Nat.reduceAdd,Nat.reduceSub,Array.replicate_succ,Array.replicate_zero,List.push_toArray,List.append_toArray,List.nil_append,List.cons_append]
 have HP:=Lib.hid hp
 have HY:=Lib.hid hY
 have HJ:=Lib.hid hJ
 have HEX:=Lib.hid hex
 have hKW : KpS ex B0 w W:=KpS.ext hW
 have hWs : W.heap.size ≤ W.heap.size:=Nat.le_refl _
 have hw0 : w.heap.size ≤ W.heap.size:=hW.size
 have c0 : W.cell? ⟨bf,0,none⟩ = some (.int .i64 fr):=(hKW.blk_ kf hf.1 (.inl hf.2)).cell 0
 have HS0 : Hid (([] : List BSpl).map (·.1) ++ spellsP is fr (tt - fr).toNat = spellsP is fr (tt - fr).toNat):=Lib.hid rfl
 clear hp hY hJ hex hJx
 gi_wp2
 gi_loopw [5] (fun v wr => ∃ (t : Int) (pre : List BSpl),v = .int .i64 t ∧ fr ≤ t ∧ t ≤ tt + 1 ∧ Hid (pre.map (·.1) ++ spellsP is t (tt - t).toNat = spellsP is fr (tt - fr).toNat) ∧ J pre wr ∧ KpS ex B0 w wr ∧ W.heap.size ≤ wr.heap.size)
  (fun v _ => (tt + 1 - intOf v).toNat)
 case atStart => exact ⟨fr,[],rfl,by omega,by omega,HS0,h0,hKW,hWs⟩
 case round =>
  clear HS0 h0 hKW c0
  obtain ⟨t,pre,rfl,ht1,ht2,HS,hJp,hK,hsz⟩:=hrel
  have c1 : wr.cell? ⟨bt,0,none⟩ = some (.int .i64 tt):=(hK.blk_ kt ht.1 (.inl ht.2)).cell 0
  have c2 : wr.cell? ⟨bi,0,none⟩ = some (.func (.func g) #[] caps):=(hK.blk_ ki hi.1 (.inl hi.2)).cell 0
  by_cases hlt : t < tt
  ·have hcall:=HP.out t wr ht1 hlt hK
   obtain ⟨q,hq⟩ : ∃ q,q = is t:=⟨_,rfl⟩
   rw [← hq] at hcall
   have HC:=Lib.hid hcall
   have HQ:=Lib.hid hq
   clear hcall hq
   gi_wp2_with fail
   refine ⟨trivial,(fun h => by cases h),(callsIn_wide.2 HC.out).mono ?_⟩
   rintro e W2 ⟨rfl,hb2⟩
   have hK2 : KpS ex B0 w W2:=hK.trans (KpS.ext hb2)
   have hJ2 : J pre W2:=HJ.out _ _ _ none hJp (ext_grown hb2) (fun r e => by cases e)
   have hsz2 : W.heap.size ≤ W2.heap.size:=Nat.le_trans hsz hb2.size
   clear HC hJp hK hsz c1 c2 hb2
   have c1 : W2.cell? ⟨bt,0,none⟩ = some (.int .i64 tt):=(hK2.blk_ kt ht.1 (.inl ht.2)).cell 0
   have c2 : W2.cell? ⟨bi,0,none⟩ = some (.func (.func g) #[] caps):=(hK2.blk_ ki hi.1 (.inl hi.2)).cell 0
   cases q
   ·gi_wp2
    go_roundw
    case rel => exact ⟨t + 1,pre,rfl,by omega,by omega,Lib.hid (by rw [← HS.out,show (tt - t).toNat = (tt - (t + 1)).toNat + 1 by omega,spells_skip _ HQ.out.symm]),hJ2,hK2,hsz2⟩
    case measure => simp [intOf]; omega
   ·gi_wp2_with fail
    have K3:=Blk.new W2 32 #[.int .i64 t,.int .i64 t]
    have hx3 : Ext W2 (W2.alloc (.cells #[.int .i64 t,.int .i64 t] 32)):=bl_alloc (Below.refl _ _) _
    obtain ⟨gb,hgb⟩ : ∃ gb,gb = W2.heap.size:=⟨_,rfl⟩
    rw [← hgb] at K3 ⊢
    generalize W2.alloc (.cells #[.int .i64 t,.int .i64 t] 32) = W3 at K3 hx3 ⊢
    have HX3:=Lib.hid hx3
    have HG:=Lib.hid hgb
    have HT:=Lib.hid HQ.out
    clear hx3 hgb c1 c2
    gi_loopw [20] (fun _ wi => ∃ k : Nat,t + k ≤ tt ∧ Hid (∀ i : Nat,i < k → is (t + i) = true) ∧ Blk wi gb 32 #[.int .i64 t,.int .i64 (t + k)] ∧ Ext W2 wi) (fun _ wi => match wi.cell? ⟨gb,1,none⟩ with | some u => (tt - intOf u).toNat | none => 0)
    case atStart => exact ⟨0,by omega,Lib.hid (fun i hi => absurd hi (by omega)),by simpa using K3,HX3.out⟩
    case round =>
     clear K3 HX3
     obtain ⟨k,hk,HI,Ki,hxi⟩:=hrel
     have hKi : KpS ex B0 w wr:=hK2.trans (KpS.ext hxi)
     have hgB : ¬ ex gb:=fun h => by have:=HEX.out _ h; have:=HG.out; omega
     have c1 : wr.cell? ⟨bt,0,none⟩ = some (.int .i64 tt):=(hKi.blk_ kt ht.1 (.inl ht.2)).cell 0
     have c2 : wr.cell? ⟨bi,0,none⟩ = some (.func (.func g) #[] caps):=(hKi.blk_ ki hi.1 (.inl hi.2)).cell 0
     have c3 : wr.cell? ⟨gb,0,none⟩ = some (.int .i64 t):=Ki.cell 0
     have c4 : wr.cell? ⟨gb,1,none⟩ = some (.int .i64 (t + k)):=Ki.cell 1
     have c5 : wr.frozen? ⟨gb,1,none⟩ = false:=Ki.frozen 1
     by_cases hlk : t + k < tt
     ·have hcall:=HP.out (t + k) wr (by omega) hlk hKi
      obtain ⟨q,hq⟩ : ∃ q,q = is (t + k):=⟨_,rfl⟩
      rw [← hq] at hcall
      have HC:=Lib.hid hcall
      have HQ2:=Lib.hid hq
      clear hcall hq
      gi_wp2_with fail
      refine ⟨trivial,(fun h => by cases h),(callsIn_wide.2 HC.out).mono ?_⟩
      rintro e W4 ⟨rfl,hb4⟩
      have hx4 : Ext W2 W4:=hxi.trans hb4
      have hK4 : KpS ex B0 w W4:=hK2.trans (KpS.ext hx4)
      have K4:=Ki.ext hb4
      clear HC c1 c2 c3 c4 c5 hb4 hKi
      cases q
      ·have HE : Hid (k = (tt - t).toNat ∨ is (t + k) = false):=Lib.hid (.inr HQ2.out.symm)
       have hk1 : 1 ≤ k:=by
        rcases Nat.eq_zero_or_pos k with h0 | h0
        ·rcases HE.out with h | h
         ·omega
         ·rw [h0,show t + ((0 : Nat) : Int) = t by omega,← HT.out] at h; cases h
        ·exact h0
       have hrun:=spells_run is k (tt - t).toNat t hk1 (by omega) HI.out HE.out
       have hJ4 : J pre W4:=HJ.out _ _ _ none hJ2 (ext_grown hx4) (fun r e => by cases e)
       have hlen : pre.length < (spellsP is fr (tt - fr).toNat).length:=by rw [← HS.out,hrun]; simp
       have hbd : -1000000 ≤ t ∧ t ≤ 10000000 ∧ -1000000 ≤ t + k ∧ t + k ≤ 10000000:=by omega
       have hnew : ((pre ++ [(⟨⟨t,t + k⟩,hbd⟩ : BSpl)]).map (·.1)) ++ spellsP is (t + k + 1) (tt - (t + k + 1)).toNat = spellsP is fr (tt - fr).toNat:=by
        rw [← HS.out,hrun,List.map_append,List.append_assoc,List.map_singleton,List.singleton_append]
        congr 2
        rcases HE.out with h | h
        ·rw [show (tt - (t + k + 1)).toNat = 0 by omega,show (tt - t).toNat - k = 0 by omega]; rfl
        ·by_cases he : k = (tt - t).toNat
         ·rw [show (tt - (t + k + 1)).toNat = 0 by omega,show (tt - t).toNat - k = 0 by omega]; rfl
         ·rw [show (tt - t).toNat - k = (tt - (t + k + 1)).toNat + 1 by omega,spells_skip _ h]
       have hpre : (pre ++ [(⟨⟨t,t + k⟩,hbd⟩ : BSpl)]).map (·.1) <+: spellsP is fr (tt - fr).toNat:=⟨_,hnew⟩
       have HN:=Lib.hid hnew
       have HPRE:=Lib.hid hpre
       have c3 : W4.cell? ⟨gb,0,none⟩ = some (.int .i64 t):=K4.cell 0
       have c4 : W4.cell? ⟨gb,1,none⟩ = some (.int .i64 (t + k)):=K4.cell 1
       obtain ⟨fn,tmps,assign,body,hy,hR⟩:=HY.out pre ⟨⟨t,t + k⟩,hbd⟩ W4 hJ4 hlen
       dsimp only at hy
       clear hrun hnew hpre
       gi_wp2_with fail
       refine ⟨(fun h => by cases h),hR.mono ?_⟩
       rintro e W5 (⟨rfl,hJ5,hk5⟩ | ⟨rfl,hJx5⟩)
       ·have K5:=hk5.blk_ K4 hgB (.inr rfl)
        have c4 : W5.cell? ⟨gb,1,none⟩ = some (.int .i64 (t + k)):=K5.cell 1
        have hK5 : KpS ex B0 w W5:=(hK2.trans (KpS.ext hx4)).trans hk5
        have hz5 : W.heap.size ≤ W5.heap.size:=Nat.le_trans hsz2 (Nat.le_trans (Below.size hx4) hk5.size)
        clear hy hR c3 hk5
        gi_wp2
        go_roundw
        case rel => exact ⟨t + k + 1,_,rfl,by omega,by omega,HN,hJ5,hK5,hz5⟩
        case measure => simp [intOf]; omega
       ·gi_wp2
        refine bodyPost_ret (results_none rfl _ _ _) rfl ?_
        exact ⟨⟨_,rfl⟩,.inr ⟨_,HPRE.out,hJx5⟩⟩
      ·have c4 : W4.cell? ⟨gb,1,none⟩ = some (.int .i64 (t + k)):=K4.cell 1
       have c5 : W4.frozen? ⟨gb,1,none⟩ = false:=K4.frozen 1
       have hm1 : (match wr.cell? ⟨gb,1,none⟩ with | some u => (tt - intOf u).toNat | none => 0) = (tt - (t + k)).toNat:=by rw [show wr.cell? ⟨gb,1,none⟩ = some (.int .i64 (t + k)) from Ki.cell 1]; rfl
       have K5 : Blk (W4.setCell ⟨gb,1,none⟩ (.int .i64 (t + k + 1))) gb 32 #[.int .i64 t,.int .i64 (t + k + 1)]:=K4.set_ 1 _
       have hm2 : (match (W4.setCell ⟨gb,1,none⟩ (.int .i64 (t + k + 1))).cell? ⟨gb,1,none⟩ with | some u => (tt - intOf u).toNat | none => 0) = (tt - (t + k + 1)).toNat:=by rw [show (W4.setCell ⟨gb,1,none⟩ (.int .i64 (t + k + 1))).cell? ⟨gb,1,none⟩ = some (.int .i64 (t + k + 1)) from K5.cell 1]; rfl
       have hx5 : Ext W2 (W4.setCell ⟨gb,1,none⟩ (.int .i64 (t + k + 1))):=hx4.setCell (p:=⟨gb,1,none⟩) (by have:=HG.out; exact Nat.le_of_eq this.symm) _
       have HM1:=Lib.hid hm1
       have HM2:=Lib.hid hm2
       have HX5:=Lib.hid hx5
       have HK5:=Lib.hid K5
       clear hm1 hm2 hx5 K5
       gi_wp2
       go_roundw
       case rel => exact ⟨k + 1,by omega,Lib.hid (fun i hi => by rcases Nat.lt_or_ge i k with h | h; exact HI.out i h; rw [show i = k by omega]; exact HQ2.out.symm),by rw [show t + ((k + 1 : Nat) : Int) = t + k + 1 by omega]; exact HK5.out,HX5.out⟩
       case measure => rw [HM1.out,HM2.out]; omega
     ·have HE : Hid (k = (tt - t).toNat ∨ is (t + k) = false):=Lib.hid (.inl (by omega))
      have hd : decide (t + k < tt) = false:=by simpa using hlk
      clear c3 c4 c5
      have hk1 : 1 ≤ k:=by
       rcases Nat.eq_zero_or_pos k with h0 | h0
       ·rcases HE.out with h | h
        ·omega
        ·rw [h0,show t + ((0 : Nat) : Int) = t by omega,← HT.out] at h; cases h
       ·exact h0
      have hrun:=spells_run is k (tt - t).toNat t hk1 (by omega) HI.out HE.out
      have hJ4 : J pre wr:=HJ.out _ _ _ none hJ2 (ext_grown hxi) (fun r e => by cases e)
      have hlen : pre.length < (spellsP is fr (tt - fr).toNat).length:=by rw [← HS.out,hrun]; simp
      have hbd : -1000000 ≤ t ∧ t ≤ 10000000 ∧ -1000000 ≤ t + k ∧ t + k ≤ 10000000:=by omega
      have hnew : ((pre ++ [(⟨⟨t,t + k⟩,hbd⟩ : BSpl)]).map (·.1)) ++ spellsP is (t + k + 1) (tt - (t + k + 1)).toNat = spellsP is fr (tt - fr).toNat:=by
       rw [← HS.out,hrun,List.map_append,List.append_assoc,List.map_singleton,List.singleton_append]
       congr 2
       rcases HE.out with h | h
       ·rw [show (tt - (t + k + 1)).toNat = 0 by omega,show (tt - t).toNat - k = 0 by omega]; rfl
       ·by_cases he : k = (tt - t).toNat
        ·rw [show (tt - (t + k + 1)).toNat = 0 by omega,show (tt - t).toNat - k = 0 by omega]; rfl
        ·rw [show (tt - t).toNat - k = (tt - (t + k + 1)).toNat + 1 by omega,spells_skip _ h]
      have hpre : (pre ++ [(⟨⟨t,t + k⟩,hbd⟩ : BSpl)]).map (·.1) <+: spellsP is fr (tt - fr).toNat:=⟨_,hnew⟩
      have HN:=Lib.hid hnew
      have HPRE:=Lib.hid hpre
      have c3 : wr.cell? ⟨gb,0,none⟩ = some (.int .i64 t):=Ki.cell 0
      have c4 : wr.cell? ⟨gb,1,none⟩ = some (.int .i64 (t + k)):=Ki.cell 1
      obtain ⟨fn,tmps,assign,body,hy,hR⟩:=HY.out pre ⟨⟨t,t + k⟩,hbd⟩ wr hJ4 hlen
      dsimp only at hy
      clear hrun hnew hpre
      gi_wp2_with fail
      refine ⟨fun _ h => (by cases h),?_⟩
      gi_wp2_with fail
      refine ⟨(fun h => by cases h),hR.mono ?_⟩
      rintro e W5 (⟨rfl,hJ5,hk5⟩ | ⟨rfl,hJx5⟩)
      ·have K5:=hk5.blk_ Ki hgB (.inr rfl)
       have c4 : W5.cell? ⟨gb,1,none⟩ = some (.int .i64 (t + k)):=K5.cell 1
       have hK5 : KpS ex B0 w W5:=(hK2.trans (KpS.ext hxi)).trans hk5
       have hz5 : W.heap.size ≤ W5.heap.size:=Nat.le_trans hsz2 (Nat.le_trans (Below.size hxi) hk5.size)
       clear hy hR c3 hk5
       gi_wp2
       go_roundw
       case rel => exact ⟨t + k + 1,_,rfl,by omega,by omega,HN,hJ5,hK5,hz5⟩
       case measure => simp [intOf]; omega
      ·gi_wp2
       refine bodyPost_ret (results_none rfl _ _ _) rfl ?_
       exact ⟨⟨_,rfl⟩,.inr ⟨_,HPRE.out,hJx5⟩⟩
  ·gi_wp2
   go_end0
   exact ⟨⟨_,rfl⟩,.inl ⟨pre,by rw [← HS.out,show (tt - t).toNat = 0 by omega]; simp [spellsP],hJp⟩⟩
end Go.Proofs.YtjidhhfabfnhnaaGreat
namespace Go.Proofs.YtjidhhfabfnhnaaGreat
open Go.RowKit Go.Shelf
def splCells (s : Spl) : List Value:=[.int .i64 s.fr,.int .i64 s.tt]
theorem spells_len (is : Int → Bool) (n : Nat) : ∀ t,(spellsP is t n).length ≤ n:=by
 induction n with
 | zero => intro t; exact Nat.le_refl _
 | succ n ih =>
  intro t
  have h:=ih (t + 1)
  unfold spellsP
  split
  ·split
   ·simp
   ·rename_i s r hx
    rw [hx] at h
    split <;> simp at h ⊢ <;> omega
  ·omega
section
variable {P : Program}
theorem run_append_prec (w : World) (base : Nat) (t ty e : TypeId) (i : TypeInfo) (z : Value) (size bytes : Nat) (ht : P.underlying t = some (.slice e)) (hi : P.info? e = some i) (hz : i.zero = some z)
  (hsize : i.size = size) (hby : i.bytes = bytes) (hzs : z.cells.size = size) (hsz : 2 ≤ size)
  (v : Value) (k : Nat) (xs : List Value) (hown : w.ownsRow base e size v k xs) (hnil : k = 0 → v = .slice none 0 0)
  (ad : Addr) (c : Nat) (news : List Value) (hn : news.length = size) (hc : ∀ j u,news[j]? = some u → w.cell? (ad.add j) = some u) (h1 : ∀ u ∈ news,u.oneCell' = true)
  (b1 : k + 1 ≤ maxLen) (b2 : (k + 1) * bytes ≤ 140737488355328) (b3 : base ≤ w.heap.size) :
  ∃ (v' : Value) (w' : World),(Builtin.append_ #[t,t] ty #[v,.slice (some ad) 1 c]).run P w = .ok v' w' ∧ w'.ownsRow base e size v' (k + 1) (xs ++ news) ∧ w.grownBy w' v.ownBlock ∧
   ∀ (g : Nat) (cs : Array Value) (t' : TypeId),w.heap[g]? = some (Obj.cells cs t' (0,0)) → cs.size = 2 → w'.heap[g]? = w.heap[g]?:=by
 have hn1 : news.length = 1 * size:=by omega
 rcases hown.2 with ⟨rfl,rfl⟩ | ⟨g0,cap,cur,rfl,hg0,hh,hcap,hmax,hcur,htk⟩
 ·obtain ⟨v',w',h1',h2,h3,_⟩:=run_append_own (P:=P) w base t ty e i z size bytes ht hi hz hsize hby hzs (by omega) _ 0 xs hown ad 1 c news hn1 hc h1 (by omega) (by omega) b3
  exact ⟨v',w',h1',h2,h3,fun g cs t' hg _ => h3.block g (Array.getElem?_eq_some_iff.1 hg).1 (by simp [Value.ownBlock])⟩
 ·have hk : k ≠ 0:=fun h => by have:=hnil h; cases this
  by_cases hroom : k + 1 ≤ cap
  ·obtain ⟨w',h1',h2,h3⟩:=run_append_fits (P:=P) w base t ty e i size ht hi hsize g0 k cap xs hown ad 1 c news hn1 hc h1 hroom
   refine ⟨_,w',h1',h2,h3,fun g cs t' hg hs => h3.block g (Array.getElem?_eq_some_iff.1 hg).1 ?_⟩
   intro e'
   have e2 : g = g0:=by simpa using e'
   subst e2
   rw [hg] at hh
   injection hh with hh
   injection hh with e3 _
   subst e3
   have:=Nat.mul_le_mul (show 2 ≤ cap by omega) hsz
   omega
  ·obtain ⟨v',w',h1',h2,h3⟩:=run_append_arg_grows (P:=P) w t ty e i z size bytes ht hi hz hsize hby hzs (by omega) ⟨g0,0,none⟩ k cap xs hown.1 (fun j u hu => hown.cells (g:=g0) rfl j u hu) ad 1 c news hn1 hc (by omega) b1 b2
   exact ⟨v',w',h1',own_base h2 b3,⟨h3.os,h3.tape,h3.output,h3.size,fun j hj _ => h3.block j hj (by simp)⟩,fun g cs t' hg _ => h3.block g (Array.getElem?_eq_some_iff.1 hg).1 (by simp)⟩
end
theorem wpListIn_append_run {F : Fence} {n : Nat} {P : Program} {w : World} {ops : Array Oper} {rest : List Oper} {o : Oper} {a : Act} {Q : Exit → Act → World → Prop}
  (hg : o.guard = none) (s x : Operand) (t : TypeId) (hop : o.op = Op.call { callee:=Callee.builtin Builtin.append,args:=#[s,x],argTypes:=#[t,t] })
  {v1 v2 v' : Value} {w' : World} (hs : a.eval s = v1) (hx : a.eval x = v2) (hrun : (Builtin.append_ #[t,t] o.type #[v1,v2]).run P w = .ok v' w')
  (hK : wpListIn F n P ops Q rest (a.put o.dst v') w') : wpListIn F n P ops Q (o :: rest) a w:=by
 refine wpListIn_plain hg fun K hK' => ?_
 unfold Oper.wpIn
 refine ⟨?_,?_⟩
 ·simp [Oper.about,hop,resolve,Target.leads,Sem.run_pure]
 ·rw [Oper.semAt_plain F _ _ (by rw [hop]; intro c hc'; cases hc')]
  simp [execOp,hop,resolve,invoke,builtin,hs,hx,hrun,Result.andThen]
  exact hK' _ _ hK
theorem keeps_own {W W' : World} {base : Nat} {e : TypeId} {size k : Nat} {v : Value} {xs : List Value} (h : W.ownsRow base e size v k xs) (hg : W.grownBy W' v.ownBlock) : KeepsOthers W W' :=
 ⟨hg.size,fun j o hj ho => by
  refine (hg.block j (Array.getElem?_eq_some_iff.1 hj).1 fun e' => ?_).trans hj
  rcases h.2 with ⟨rfl,_⟩ | ⟨g,cap,cur,rfl,_,hh,_⟩
  ·simp [Value.ownBlock] at e'
  ·have e2 : j = g:=by simpa [Value.ownBlock] using e'
   subst e2
   rw [hh] at hj
   injection hj with hj
   subst hj
   cases ho⟩
theorem own_kept {B : Nat} {W W' : World} {row : Option Nat} {base : Nat} {e : TypeId} {size k : Nat} {v : Value} {xs : List Value} (h : W.ownsRow base e size v k xs) (hg : W.grownBy W' row) (hr : ∀ r,row = some r → B ≤ r ∧ ∃ o : Obj,W.heap[r]? = some o ∧ o.isCells = false) : W'.ownsRow base e size v k xs:=by
 refine ⟨h.1,?_⟩
 rcases h.2 with hn | ⟨g,cap,cur,rfl,hb,hh,r⟩
 ·exact .inl hn
 ·refine .inr ⟨g,cap,cur,rfl,hb,?_,r⟩
  refine (hg.block g (Array.getElem?_eq_some_iff.1 hh).1 fun e' => ?_).trans hh
  obtain ⟨_,o,ho,hc⟩:=hr g e'.symm
  rw [hh] at ho
  injection ho with ho
  subst ho
  cases hc
theorem blk_kept {B : Nat} {W W' : World} {row : Option Nat} {g : Nat} {t : TypeId} {cs : Array Value} (h : Blk W g t cs) (hg : W.grownBy W' row) (hr : ∀ r,row = some r → B ≤ r ∧ ∃ o : Obj,W.heap[r]? = some o ∧ o.isCells = false) : Blk W' g t cs:=by
 refine (hg.block g h.lt fun e' => ?_).trans h
 obtain ⟨_,o,ho,hc⟩:=hr g e'.symm
 have hh : W.heap[g]? = _:=h
 rw [hh] at ho
 injection ho with ho
 subst ho
 cases hc
theorem KpS.setCell {ex : Nat → Prop} {B0 : Nat} (W : World) (p : Addr) (u : Value) (hx : ex p.block) : KpS ex B0 W (W.setCell p u) :=
 ⟨by simp,fun k _ _ _ hk _ => Below.heap_setCell W p u k (fun e => hk (by rw [e]; exact hx))⟩
theorem KpS.append {ex : Nat → Prop} {B0 base : Nat} {W W' : World} {e : TypeId} {size k : Nat} {v : Value} {xs : List Value} (h : W.ownsRow base e size v k xs) (hb : B0 ≤ base) (hg : W.grownBy W' v.ownBlock)
  (hp : ∀ (g : Nat) (cs : Array Value) (t' : TypeId),W.heap[g]? = some (Obj.cells cs t' (0,0)) → cs.size = 2 → W'.heap[g]? = W.heap[g]?) : KpS ex B0 W W' :=
 ⟨hg.size,fun j cs t hj _ hz => by
  rcases hz with hz | hz
  ·exact hg.block j (Array.getElem?_eq_some_iff.1 hj).1 fun e' => by have:=(World.ownsRow.lt h j e'.symm).1; omega
  ·exact hp j cs t hj hz⟩
theorem wp_range_spells (ex : Nat → Prop) (g : Nat) (caps : Array Value) (is : Int → Bool) (fr tt : Int) (bf bt bi : Nat) (n : Nat) (hn : 1 ≤ n) {w : World} (hex : ∀ k,ex k → k < w.heap.size)
  (eg : ∀ args w,(callFunc g args).run Tryz.prog w = .ok (.enter g args) w)
  (kf : Blk w bf 3 #[.int .i64 fr]) (kt : Blk w bt 3 #[.int .i64 tt]) (ki : Blk w bi 147 #[.func (.func g) #[] caps]) (hf : ¬ ex bf) (ht : ¬ ex bt) (hi : ¬ ex bi)
  (b1 : -1000000 ≤ fr) (b2 : fr ≤ tt) (b3 : tt ≤ 10000000)
  (hp : ∀ t W,fr ≤ t → t < tt → KpS ex w.heap.size w W → Calls Tryz.prog g (#[.int .i64 t] ++ caps) W fun e W' => e = .returned (.bool (is t)) ∧ Below W.heap.size W W')
  {op : Operand} {p q : Nat} {assign body : Code} {Q : Exit → Act → World → Prop} {a : Act} (hg : a.eval op = .func (.func 141) #[] #[.pointer (some ⟨bf,0,none⟩),.pointer (some ⟨bt,0,none⟩),.pointer (some ⟨bi,0,none⟩)])
  (I : List BSpl → World → Prop) (hI : OwnFrom w.heap.size I) (hIs : ∀ pre W,I pre W → w.heap.size ≤ W.heap.size) (h0 : I [] w)
  (hassign : ∀ (l : Nat) (x : BSpl) (W : World) (K : Act → World → Prop),K { tmps:=(a.tmps.setIfInBounds p (.agg #[.int .i64 x.1.fr,.int .i64 x.1.tt])).setIfInBounds q (.pointer (some ⟨W.heap.size,0,none⟩)),defers:=[] } (W.alloc (.cells #[.int .i64 x.1.fr,.int .i64 x.1.tt] 32)) →
   assign.wpIn (Fence.wide.inRound l) (n - 1 - 1) Tryz.prog (Exit.then K (fun _ _ _ => False)) { tmps:=a.tmps.setIfInBounds p (.agg #[.int .i64 x.1.fr,.int .i64 x.1.tt]),defers:=[] } W)
  (hbody : ∀ (l : Nat) (pre : List BSpl) (x : BSpl) (Bx : Nat) (W : World),I pre W → w.heap.size ≤ Bx → Blk W Bx 32 #[.int .i64 x.1.fr,.int .i64 x.1.tt] → pre.length < (spellsP is fr (tt - fr).toNat).length →
   body.wpIn (Fence.wide.inRound l) (n - 1 - 1) Tryz.prog (ownPostG w.heap.size (KpS ex w.heap.size) I (fun _ _ _ => False) (pre ++ [x]) W) { tmps:=(a.tmps.setIfInBounds p (.agg #[.int .i64 x.1.fr,.int .i64 x.1.tt])).setIfInBounds q (.pointer (some ⟨Bx,0,none⟩)),defers:=[] } W)
  (hdone : ∀ (D : Nat) (xs : List BSpl) (W : World),w.heap.size ≤ D → xs.map (·.1) = spellsP is fr (tt - fr).toNat → I xs W → W.heap[D]? = some (.deferred (some [])) → Q .normal { a with defers:={ target:=.collected D,args:=#[] } :: a.defers } W) :
  (Code.rangeFunc op #[p] assign body).wpIn Fence.wide n Tryz.prog Q a w:=by
 have hseq:=spells1_in ex w.heap.size g caps is fr tt bf bt bi (n - 1) w hex (Nat.le_refl _) eg kf kt ki ⟨hf,kf.lt⟩ ⟨ht,kt.lt⟩ ⟨hi,ki.lt⟩ b1 b2 b3 hp
 refine wpIn_rangeFunc_ownH (F:=Fence.wide) rfl hn (gf:=141) hg trivial (enters_of Tryz.func141 (by kernel_rfl) rfl) hseq (fun h k => h.trans k) (fun W l o o' _ h h1 _ => KpS.putObj W l o o' h h1) (Below.refl _ _) (fun _ => rfl)
  I (fun _ _ _ => False) hI (fun _ _ _ _ _ hs _ _ => hs) h0
  (fun x a' W => ∃ Bx,w.heap.size ≤ Bx ∧ w.heap.size ≤ W.heap.size ∧ Blk W Bx 32 #[.int .i64 x.1.fr,.int .i64 x.1.tt] ∧ a' = { tmps:=(a.tmps.setIfInBounds p (.agg #[.int .i64 x.1.fr,.int .i64 x.1.tt])).setIfInBounds q (.pointer (some ⟨Bx,0,none⟩)),defers:=[] })
  ?_ ?_ ?_ ?_ ?_
 ·rintro x a' _ X Y row ⟨Bx,h1,h2,h3,h4⟩ hgr hr
  exact ⟨Bx,h1,Nat.le_trans h2 hgr.size,blk_kept h3 hgr hr,h4⟩
 ·intro l pre x W K hIp hK
  have hz : ((#[p].zip #[Value.agg #[.int .i64 x.1.fr,.int .i64 x.1.tt]]).foldl (fun t (p,v) => t.setIfInBounds p v) a.tmps) = a.tmps.setIfInBounds p (.agg #[.int .i64 x.1.fr,.int .i64 x.1.tt]):=by simp
  rw [hz]
  exact hassign l x W _ (hK _ _ ((KeepsOthers.alloc W _).from _) (KpS.ext (bl_alloc (Below.refl _ _) _)) (hI.alloc _ hIp) ⟨W.heap.size,hIs _ _ hIp,by rw [World.size_alloc]; exact Nat.le_succ_of_le (hIs _ _ hIp),Blk.new _ _ _,rfl⟩)
 ·rintro l pre x a' W _ _ hIp ⟨Bx,h1,_,h3,rfl⟩ hl
  exact hbody l pre x Bx W hIp h1 h3 hl
 ·intro D xs W hD hxs hIx hK
  exact hdone D xs W hD hxs hIx hK
 ·rintro D c pre W _ _ h _
  exact h.elim
end Go.Proofs.YtjidhhfabfnhnaaGreat
namespace Go.Proofs.YtjidhhfabfnhnaaGreat
open Go.RowKit
abbrev I64 (n : Int) : Value:=.int .i64 n
def celV (c : Cel) : Value:=.agg #[I64 c.x,I64 c.y]
def splV (s : Spl) : Value:=.agg #[I64 s.fr,I64 s.tt]
def orbV (o : Orb) : Value:=.agg #[I64 o.period,I64 o.phase,I64 o.low,I64 o.high,I64 o.node,I64 o.turn,I64 o.slack]
theorem isIn_any (n lo hi : Int) (w : World) :
  Calls Tryz.prog 157 #[.int .i64 n,.int .i64 lo,.int .i64 hi] w fun e w' => e = .returned (.bool (inB n lo hi)) ∧ w = w':=by
 by_cases h1 : lo ≤ n
 ·have e : inB n lo hi = decide (n ≤ hi):=by simp [inB,h1]
  rw [e]
  go_enter Tryz.func157,Tryz.ntmps157
  go_wp2
  go_ret
  exact ⟨by first | rfl | simp [*],rfl⟩
 ·have e : inB n lo hi = false:=by simp [inB,h1]
  rw [e]
  go_enter Tryz.func157,Tryz.ntmps157
  go_wp2
  go_ret
  exact ⟨rfl,rfl⟩
theorem oin_any (n lo hi : Int) (w : World) :
  Calls Tryz.prog 125 #[.int .i64 n,.int .i64 lo,.int .i64 hi] w fun e w' => e = .returned (.bool (inB n lo hi)) ∧ w = w':=by
 by_cases h1 : lo ≤ n
 ·have e : inB n lo hi = decide (n ≤ hi):=by simp [inB,h1]
  rw [e]
  go_enter Tryz.func125,Tryz.ntmps125
  go_wp2
  go_ret
  exact ⟨by first | rfl | simp [*],rfl⟩
 ·have e : inB n lo hi = false:=by simp [inB,h1]
  rw [e]
  go_enter Tryz.func125,Tryz.ntmps125
  go_wp2
  go_ret
  exact ⟨rfl,rfl⟩
theorem gin_any (n lo hi : Int) (w : World) :
  Calls Tryz.prog 158 #[.int .i64 n,.int .i64 lo,.int .i64 hi] w fun e w' => e = .returned (.bool (inB n lo hi)) ∧ w = w':=by
 by_cases h1 : lo ≤ n
 ·have e : inB n lo hi = decide (n ≤ hi):=by simp [inB,h1]
  rw [e]
  go_enter Tryz.func158,Tryz.ntmps158
  go_wp2
  go_ret
  exact ⟨by first | rfl | simp [*],rfl⟩
 ·have e : inB n lo hi = false:=by simp [inB,h1]
  rw [e]
  go_enter Tryz.func158,Tryz.ntmps158
  go_wp2
  go_ret
  exact ⟨rfl,rfl⟩
theorem validCell_any (x y : Int) (w : World) :
  Calls Tryz.prog 123 #[.agg #[.int .i64 x,.int .i64 y]] w fun e w' => e = .returned (.bool (celOK ⟨x,y⟩)) ∧ Below w.heap.size w w':=by
 have hb : celOK ⟨x,y⟩ = (inB x 0 47 && inB y 0 23):=rfl
 rw [hb]
 clear hb
 generalize e0 : inB x 0 47 = b0
 generalize e1 : inB y 0 23 = b1
 have E0:=Lib.hid e0
 have E1:=Lib.hid e1
 clear e0 e1
 go_enter Tryz.func123,Tryz.ntmps123
 go_wp2_with (go_at_call 158; refine (gin_any _ _ _ _).mono ?_; rintro e w' ⟨rfl,rfl⟩; first | rw [E0.out] | rw [E1.out])
 all_goals
  go_ret
  exact ⟨by simp [*],(by repeat (first | exact Below.refl _ _ | assumption | refine Below.drew ?_ | refine below_drewN ?_ _ | refine bl_alloc ?_ _ | refine Below.setCell ?_ (by first | (simp; done) | omega | (simp; omega)) _ | refine bl_then ?_ (by assumption)))⟩
theorem orbit_valid (p f lo hi no tu sl : Int) (w : World) :
  Calls Tryz.prog 71 #[.agg #[.int .i64 p,.int .i64 f,.int .i64 lo,.int .i64 hi,.int .i64 no,.int .i64 tu,.int .i64 sl]] w fun e w' => e = .returned (.bool (orbOK ⟨p,f,lo,hi,no,tu,sl⟩)) ∧ Below w.heap.size w w':=by
 have hb : orbOK ⟨p,f,lo,hi,no,tu,sl⟩ = (inB p 20 2000 && (p % 2 == 0) && inB f 0 (p - 1) && inB lo 0 23999 && inB hi 0 23999 && decide (lo < hi) && inB no 0 47999 && inB tu (-2000) 2000 && inB sl 0 10):=rfl
 rw [hb]
 clear hb
 generalize e0 : inB p 20 2000 = b0
 generalize e1 : inB f 0 (p - 1) = b1
 generalize e2 : inB lo 0 23999 = b2
 generalize e3 : inB hi 0 23999 = b3
 generalize e4 : inB no 0 47999 = b4
 generalize e5 : inB tu (-2000) 2000 = b5
 generalize e6 : inB sl 0 10 = b6
 have E0:=Lib.hid e0
 have E1:=Lib.hid e1
 have E2:=Lib.hid e2
 have E3:=Lib.hid e3
 have E4:=Lib.hid e4
 have E5:=Lib.hid e5
 have E6:=Lib.hid e6
 clear e0 e1 e2 e3 e4 e5 e6
 generalize hlt : decide (lo < hi) = lt
 cases b0
 ·go_enter Tryz.func71,Tryz.ntmps71
  go_wp2_with (go_at_call 125; refine (oin_any _ _ _ _).mono ?_; rintro e w' ⟨rfl,rfl⟩; first | rw [E0.out] | rw [E1.out] | rw [E2.out] | rw [E3.out] | rw [E4.out] | rw [E5.out] | rw [E6.out])
  all_goals
   go_ret
   exact ⟨by simp [*],(by repeat (first | exact Below.refl _ _ | assumption | refine Below.drew ?_ | refine below_drewN ?_ _ | refine bl_alloc ?_ _ | refine Below.setCell ?_ (by first | (simp; done) | omega | (simp; omega)) _ | refine bl_then ?_ (by assumption)))⟩
 ·obtain ⟨p1,p2⟩:=inB_iff.1 E0.out
  have hm : p.tmod 2 = p % 2:=Int.tmod_eq_emod_of_nonneg (by omega)
  generalize hq : p % 2 = q at hm ⊢
  go_enter Tryz.func71,Tryz.ntmps71
  go_wp2_with (go_at_call 125; refine (oin_any _ _ _ _).mono ?_; rintro e w' ⟨rfl,rfl⟩; first | rw [E0.out] | rw [E1.out] | rw [E2.out] | rw [E3.out] | rw [E4.out] | rw [E5.out] | rw [E6.out])
  all_goals
   go_ret
   exact ⟨by simp [*],(by repeat (first | exact Below.refl _ _ | assumption | refine Below.drew ?_ | refine below_drewN ?_ _ | refine bl_alloc ?_ _ | refine Below.setCell ?_ (by first | (simp; done) | omega | (simp; omega)) _ | refine bl_then ?_ (by assumption)))⟩
end Go.Proofs.YtjidhhfabfnhnaaGreat
namespace Go.Proofs.YtjidhhfabfnhnaaGreat
open Go.RowKit
theorem bcell {W w1 : World} (hb : Below W.heap.size W w1) : (∀ b o,b < W.heap.size → w1.cell? ⟨b,o,none⟩ = W.cell? ⟨b,o,none⟩) ∧ (∀ b o,b < W.heap.size → w1.frozen? ⟨b,o,none⟩ = W.frozen? ⟨b,o,none⟩) :=
 ⟨fun b o h => hb.cell (p:=⟨b,o,none⟩) h,fun b o h => hb.frozen (p:=⟨b,o,none⟩) h⟩
theorem tmod_around (n c : Int) : (n.tmod c + c) % c = n % c:=by
 rw [Int.add_emod_right]
 have : n.tmod c = n - c * (n.tdiv c):=by have:=Int.mul_tdiv_add_tmod n c; omega
 rw [this,Int.sub_mul_emod_self_left]
theorem around_any (n c : Int) (h1 : 0 < c) (h2 : c ≤ 1000000) (w : World) :
  Calls Tryz.prog 165 #[.int .i64 n,.int .i64 c] w fun e w' => e = .returned (.int .i64 (n % c)) ∧ w = w':=by
 rw [← tmod_around n c]
 have b1:=Int.lt_tmod_of_pos n h1
 have b2:=Int.tmod_lt_of_pos n h1
 go_enter Tryz.func165,Tryz.ntmps165
 go_wp2
 go_ret
 exact ⟨rfl,rfl⟩
theorem near_any (a b c d : Int) (w : World) :
  Calls Tryz.prog 63 #[.agg #[.int .i64 a,.int .i64 b],.agg #[.int .i64 c,.int .i64 d]] w fun e w' => e = .returned (.int .i64 (nearP ⟨a,b⟩ ⟨c,d⟩)) ∧ Below w.heap.size w w':=by
 generalize e1 : celOK ⟨a,b⟩ = q
 generalize e2 : celOK ⟨c,d⟩ = r
 have E1:=Lib.hid e1
 have E2:=Lib.hid e2
 cases q
 ·have hn : nearP ⟨a,b⟩ ⟨c,d⟩ = -1:=by simp [nearP,e1]
  rw [hn]
  clear hn e1 e2
  go_enter Tryz.func63,Tryz.ntmps63
  go_wp2_with fail
  refine (validCell_any a b _).mono ?_
  rintro e w1 ⟨rfl,hb1⟩
  rw [E1.out]
  go_wp2
  go_ret
  exact ⟨rfl,(by repeat (first | exact Below.refl _ _ | assumption | refine Below.drew ?_ | refine below_drewN ?_ _ | refine bl_alloc ?_ _ | refine Below.setCell ?_ (by first | (simp; done) | omega | (simp; omega)) _ | refine bl_then ?_ (by assumption)))⟩
 ·cases r
  ·have hn : nearP ⟨a,b⟩ ⟨c,d⟩ = -1:=by simp [nearP,e2]
   rw [hn]
   clear hn e1 e2
   go_enter Tryz.func63,Tryz.ntmps63
   go_wp2_with fail
   refine (validCell_any a b _).mono ?_
   rintro e w1 ⟨rfl,hb1⟩
   rw [E1.out]
   obtain ⟨hc1,hf1⟩:=bcell hb1
   go_wp2_with fail
   refine (validCell_any c d _).mono ?_
   rintro e w2 ⟨rfl,hb2⟩
   rw [E2.out]
   go_wp2
   go_ret
   exact ⟨rfl,(by repeat (first | exact Below.refl _ _ | assumption | refine Below.drew ?_ | refine below_drewN ?_ _ | refine bl_alloc ?_ _ | refine Below.setCell ?_ (by first | (simp; done) | omega | (simp; omega)) _ | refine bl_then ?_ (by assumption)))⟩
  ·have hn : nearP ⟨a,b⟩ ⟨c,d⟩ = max (max (b - d) (d - b)) (min (max (a - c) (c - a)) (48 - max (a - c) (c - a))):=by
    have h1 : -(b - d) = d - b:=by omega
    have h2 : -(a - c) = c - a:=by omega
    simp [nearP,e1,e2,absI,h1,h2]
   rw [hn]
   have k1 : 0 ≤ a ∧ a ≤ 47 ∧ 0 ≤ b ∧ b ≤ 23:=by simp [celOK,inB] at e1; omega
   have k2 : 0 ≤ c ∧ c ≤ 47 ∧ 0 ≤ d ∧ d ≤ 23:=by simp [celOK,inB] at e2; omega
   clear hn e1 e2
   obtain ⟨a1,a2,b1,b2⟩:=k1
   obtain ⟨c1,c2,d1,d2⟩:=k2
   go_enter Tryz.func63,Tryz.ntmps63
   go_wp2_with fail
   refine (validCell_any a b _).mono ?_
   rintro e w1 ⟨rfl,hb1⟩
   rw [E1.out]
   obtain ⟨hc1,hf1⟩:=bcell hb1
   go_wp2_with fail
   refine (validCell_any c d _).mono ?_
   rintro e w2 ⟨rfl,hb2⟩
   rw [E2.out]
   obtain ⟨hc2,hf2⟩:=bcell hb2
   have hz:=hb1.size
   simp at hz
   have k0 : Blk w2 w.heap.size 69 #[.int .i64 a,.int .i64 b]:=(((Blk.new w _ _).alloc _).below hb1 (by simp <;> omega)).below hb2 (by omega)
   have k1 : Blk w2 (w.heap.size + 1) 69 #[.int .i64 c,.int .i64 d]:=by
    have k:=(Blk.new (w.alloc (.cells #[.int .i64 a,.int .i64 b] 69)) 69 #[.int .i64 c,.int .i64 d]).below hb1 (by simp)
    rw [World.size_alloc] at k
    exact k.below hb2 (by omega)
   have f0 : w2.cell? ⟨w.heap.size,0,none⟩ = some (.int .i64 a):=k0.cell 0
   have f1 : w2.cell? ⟨w.heap.size,1,none⟩ = some (.int .i64 b):=k0.cell 1
   have f2 : w2.cell? ⟨w.heap.size + 1,0,none⟩ = some (.int .i64 c):=k1.cell 0
   have f3 : w2.cell? ⟨w.heap.size + 1,1,none⟩ = some (.int .i64 d):=k1.cell 1
   clear hc1 hc2 hf1 hf2 k0 k1
   go_wp2
   all_goals
    go_ret
    exact ⟨by simp only [Array.getD_eq_getD_getElem?,List.getElem?_toArray,List.getElem?_cons_succ,List.getElem?_cons_zero,Option.getD_some]; congr 2; omega,(by repeat (first | exact Below.refl _ _ | assumption | refine Below.drew ?_ | refine below_drewN ?_ _ | refine bl_alloc ?_ _ | refine Below.setCell ?_ (by first | (simp; done) | omega | (simp; omega)) _ | refine bl_then ?_ (by assumption)))⟩
end Go.Proofs.YtjidhhfabfnhnaaGreat
namespace Go.Proofs.YtjidhhfabfnhnaaGreat
open Go.RowKit
theorem column_any (p f lo hi no tu sl t : Int) (h1 : -4000000000 ≤ tu * t) (h2 : tu * t ≤ 4000000000) (h3 : 0 ≤ no) (h4 : no ≤ 47999) (w : World) :
  Calls Tryz.prog 153 #[.agg #[.int .i64 p,.int .i64 f,.int .i64 lo,.int .i64 hi,.int .i64 no,.int .i64 tu,.int .i64 sl,.int .i64 t]] w fun e w' => e = .returned (.int .i64 ((no + tu * t) % 48000)) ∧ Below w.heap.size w w':=by
 go_enter Tryz.func153,Tryz.ntmps153
 go_wp2_with (go_at_call 165; refine (around_any _ _ (by omega) (by omega) _).mono ?_; rintro e w' ⟨rfl,rfl⟩)
 go_ret
 exact ⟨rfl,(by repeat (first | exact Below.refl _ _ | assumption | refine Below.drew ?_ | refine below_drewN ?_ _ | refine bl_alloc ?_ _ | refine Below.setCell ?_ (by first | (simp; done) | omega | (simp; omega)) _ | refine bl_then ?_ (by assumption)))⟩
theorem row_any (p f lo hi no tu sl t : Int) (h1 : 20 ≤ p) (h2 : p ≤ 2000) (h3 : 0 ≤ f) (h4 : f ≤ 1999) (h5 : 0 ≤ lo) (h6 : lo < hi) (h7 : hi ≤ 23999) (h8 : -10 ≤ t) (h9 : t ≤ 1000010) (w : World) :
  Calls Tryz.prog 154 #[.agg #[.int .i64 p,.int .i64 f,.int .i64 lo,.int .i64 hi,.int .i64 no,.int .i64 tu,.int .i64 sl,.int .i64 t]] w fun e w' => e = .returned (.int .i64 (rowP ⟨p,f,lo,hi,no,tu,sl⟩ t)) ∧ Below w.heap.size w w':=by
 have hm : rowP ⟨p,f,lo,hi,no,tu,sl⟩ t = lo + (hi - lo) * 2 * (if p - (t + f) % p < (t + f) % p then p - (t + f) % p else (t + f) % p) / p:=by
  simp only [rowP]
  congr 3
  split <;> omega
 rw [hm]
 clear hm
 have u1:=Int.emod_nonneg (t + f) (b:=p) (by omega)
 have u2:=Int.emod_lt_of_pos (t + f) (b:=p) (by omega)
 have A1:=fun w => around_any (t + f) p (by omega) (by omega) w
 generalize (t + f) % p = u at u1 u2 A1 ⊢
 have AA:=Lib.hid A1
 clear A1
 by_cases hc : p - u < u
 ·rw [if_pos hc]
  have v1 : 0 ≤ p - u:=by omega
  have v2 : p - u ≤ 2000:=by omega
  have m1 : 0 ≤ (hi - lo) * 2 * (p - u):=Int.mul_nonneg (by omega) v1
  have m2 : (hi - lo) * 2 * (p - u) ≤ 96000000:=by
   have:=Int.mul_le_mul (a:=(hi - lo) * 2) (b:=p - u) (c:=48000) (d:=2000) (by omega) v2 v1 (by omega)
   omega
  have d0 : ((hi - lo) * 2 * (p - u)).tdiv p = (hi - lo) * 2 * (p - u) / p:=Int.tdiv_eq_ediv_of_nonneg m1
  have x1 : IntKind.i64.wrap (hi - lo) = hi - lo:=IntWalk.i64_in _ (by omega)
  have x2 : IntKind.i64.wrap ((hi - lo) * 2) = (hi - lo) * 2:=IntWalk.i64_in _ (by omega)
  have x3 : IntKind.i64.wrap (p - u) = p - u:=IntWalk.i64_in _ (by omega)
  have x4 : IntKind.i64.wrap ((hi - lo) * 2 * (p - u)) = (hi - lo) * 2 * (p - u):=IntWalk.i64_in _ (by omega)
  have d1 : 0 ≤ (hi - lo) * 2 * (p - u) / p:=Int.ediv_nonneg m1 (by omega)
  have d2 : (hi - lo) * 2 * (p - u) / p ≤ 96000000:=Int.le_trans (Int.ediv_le_self _ m1) m2
  have x5 : IntKind.i64.wrap ((hi - lo) * 2 * (p - u) / p) = (hi - lo) * 2 * (p - u) / p:=IntWalk.i64_in _ (by omega)
  have x6 : IntKind.i64.wrap (lo + (hi - lo) * 2 * (p - u) / p) = lo + (hi - lo) * 2 * (p - u) / p:=IntWalk.i64_in _ (by omega)
  have pz : p ≠ 0:=by omega
  go_enter Tryz.func154,Tryz.ntmps154
  go_wp2_with (go_at_call 165; refine (AA.out _).mono ?_; rintro e w' ⟨rfl,rfl⟩)
  have K : Blk (w.alloc (.cells #[.int .i64 p,.int .i64 f,.int .i64 lo,.int .i64 hi,.int .i64 no,.int .i64 tu,.int .i64 sl,.int .i64 t] 183)) w.heap.size 183 #[.int .i64 p,.int .i64 f,.int .i64 lo,.int .i64 hi,.int .i64 no,.int .i64 tu,.int .i64 sl,.int .i64 t]:=Blk.new _ _ _
  have hb : Below w.heap.size w (w.alloc (.cells #[.int .i64 p,.int .i64 f,.int .i64 lo,.int .i64 hi,.int .i64 no,.int .i64 tu,.int .i64 sl,.int .i64 t] 183)):=(by repeat (first | exact Below.refl _ _ | assumption | refine Below.drew ?_ | refine below_drewN ?_ _ | refine bl_alloc ?_ _ | refine Below.setCell ?_ (by first | (simp; done) | omega | (simp; omega)) _ | refine bl_then ?_ (by assumption)))
  generalize w.alloc (.cells #[.int .i64 p,.int .i64 f,.int .i64 lo,.int .i64 hi,.int .i64 no,.int .i64 tu,.int .i64 sl,.int .i64 t] 183) = W at K hb ⊢
  have f0 : W.cell? ⟨w.heap.size,0,none⟩ = some (.int .i64 p):=K.cell 0
  have f2 : W.cell? ⟨w.heap.size,2,none⟩ = some (.int .i64 lo):=K.cell 2
  have f3 : W.cell? ⟨w.heap.size,3,none⟩ = some (.int .i64 hi):=K.cell 3
  clear K
  go_region_held3 (fun w' => w'.cell? ⟨w.heap.size,0,none⟩ = some (.int .i64 p) ∧ w'.cell? ⟨w.heap.size,2,none⟩ = some (.int .i64 lo) ∧ w'.cell? ⟨w.heap.size,3,none⟩ = some (.int .i64 hi))
   (first | go_keep)
   (fail)
  go_wp2
  go_ret
  exact ⟨rfl,(by repeat (first | exact Below.refl _ _ | assumption | refine Below.drew ?_ | refine below_drewN ?_ _ | refine bl_alloc ?_ _ | refine Below.setCell ?_ (by first | (simp; done) | omega | (simp; omega)) _ | refine bl_then ?_ (by assumption)))⟩
 ·rw [if_neg hc]
  have v1 : 0 ≤ u:=by omega
  have v2 : u ≤ 2000:=by omega
  have m1 : 0 ≤ (hi - lo) * 2 * (u):=Int.mul_nonneg (by omega) v1
  have m2 : (hi - lo) * 2 * (u) ≤ 96000000:=by
   have:=Int.mul_le_mul (a:=(hi - lo) * 2) (b:=u) (c:=48000) (d:=2000) (by omega) v2 v1 (by omega)
   omega
  have d0 : ((hi - lo) * 2 * (u)).tdiv p = (hi - lo) * 2 * (u) / p:=Int.tdiv_eq_ediv_of_nonneg m1
  have x1 : IntKind.i64.wrap (hi - lo) = hi - lo:=IntWalk.i64_in _ (by omega)
  have x2 : IntKind.i64.wrap ((hi - lo) * 2) = (hi - lo) * 2:=IntWalk.i64_in _ (by omega)
  have x3 : IntKind.i64.wrap (p - u) = p - u:=IntWalk.i64_in _ (by omega)
  have x4 : IntKind.i64.wrap ((hi - lo) * 2 * (u)) = (hi - lo) * 2 * (u):=IntWalk.i64_in _ (by omega)
  have d1 : 0 ≤ (hi - lo) * 2 * (u) / p:=Int.ediv_nonneg m1 (by omega)
  have d2 : (hi - lo) * 2 * (u) / p ≤ 96000000:=Int.le_trans (Int.ediv_le_self _ m1) m2
  have x5 : IntKind.i64.wrap ((hi - lo) * 2 * (u) / p) = (hi - lo) * 2 * (u) / p:=IntWalk.i64_in _ (by omega)
  have x6 : IntKind.i64.wrap (lo + (hi - lo) * 2 * (u) / p) = lo + (hi - lo) * 2 * (u) / p:=IntWalk.i64_in _ (by omega)
  have pz : p ≠ 0:=by omega
  go_enter Tryz.func154,Tryz.ntmps154
  go_wp2_with (go_at_call 165; refine (AA.out _).mono ?_; rintro e w' ⟨rfl,rfl⟩)
  have K : Blk (w.alloc (.cells #[.int .i64 p,.int .i64 f,.int .i64 lo,.int .i64 hi,.int .i64 no,.int .i64 tu,.int .i64 sl,.int .i64 t] 183)) w.heap.size 183 #[.int .i64 p,.int .i64 f,.int .i64 lo,.int .i64 hi,.int .i64 no,.int .i64 tu,.int .i64 sl,.int .i64 t]:=Blk.new _ _ _
  have hb : Below w.heap.size w (w.alloc (.cells #[.int .i64 p,.int .i64 f,.int .i64 lo,.int .i64 hi,.int .i64 no,.int .i64 tu,.int .i64 sl,.int .i64 t] 183)):=(by repeat (first | exact Below.refl _ _ | assumption | refine Below.drew ?_ | refine below_drewN ?_ _ | refine bl_alloc ?_ _ | refine Below.setCell ?_ (by first | (simp; done) | omega | (simp; omega)) _ | refine bl_then ?_ (by assumption)))
  generalize w.alloc (.cells #[.int .i64 p,.int .i64 f,.int .i64 lo,.int .i64 hi,.int .i64 no,.int .i64 tu,.int .i64 sl,.int .i64 t] 183) = W at K hb ⊢
  have f0 : W.cell? ⟨w.heap.size,0,none⟩ = some (.int .i64 p):=K.cell 0
  have f2 : W.cell? ⟨w.heap.size,2,none⟩ = some (.int .i64 lo):=K.cell 2
  have f3 : W.cell? ⟨w.heap.size,3,none⟩ = some (.int .i64 hi):=K.cell 3
  clear K
  go_region_held3 (fun w' => w'.cell? ⟨w.heap.size,0,none⟩ = some (.int .i64 p) ∧ w'.cell? ⟨w.heap.size,2,none⟩ = some (.int .i64 lo) ∧ w'.cell? ⟨w.heap.size,3,none⟩ = some (.int .i64 hi))
   (first | go_keep)
   (fail)
  go_wp2
  go_ret
  exact ⟨rfl,(by repeat (first | exact Below.refl _ _ | assumption | refine Below.drew ?_ | refine below_drewN ?_ _ | refine bl_alloc ?_ _ | refine Below.setCell ?_ (by first | (simp; done) | omega | (simp; omega)) _ | refine bl_then ?_ (by assumption)))⟩
end Go.Proofs.YtjidhhfabfnhnaaGreat
namespace Go.Proofs.YtjidhhfabfnhnaaGreat
open Go.RowKit
theorem rowP_bd (o : Orb) (t : Int) (h : 0 < o.period) (h5 : 0 ≤ o.low) (h6 : o.low < o.high) : 0 ≤ rowP o t ∧ rowP o t ≤ o.low + (o.high - o.low):=by
 unfold rowP
 have u1:=Int.emod_nonneg (t + o.phase) (b:=o.period) (by omega)
 have u2:=Int.emod_lt_of_pos (t + o.phase) (b:=o.period) (by omega)
 generalize (t + o.phase) % o.period = u at u1 u2
 have hv : 0 ≤ min u (o.period - u) ∧ 2 * min u (o.period - u) ≤ o.period:=by omega
 generalize min u (o.period - u) = v at hv
 obtain ⟨v1,v2⟩:=hv
 have e : (o.high - o.low) * 2 * v = (o.high - o.low) * (2 * v):=by rw [Int.mul_assoc]
 rw [e]
 have m1 : 0 ≤ (o.high - o.low) * (2 * v):=Int.mul_nonneg (by omega) (by omega)
 have m2 : (o.high - o.low) * (2 * v) ≤ (o.high - o.low) * o.period:=Int.mul_le_mul_of_nonneg_left v2 (by omega)
 have d1:=Int.ediv_nonneg m1 (show 0 ≤ o.period by omega)
 have d2 : (o.high - o.low) * (2 * v) / o.period ≤ o.high - o.low:=Int.ediv_le_of_le_mul h m2
 omega
theorem cell_any (p f lo hi no tu sl t : Int) (h1 : 20 ≤ p) (h2 : p ≤ 2000) (h3 : 0 ≤ f) (h4 : f ≤ 1999) (h5 : 0 ≤ lo) (h6 : lo < hi) (h7 : hi ≤ 23999) (h8 : -10 ≤ t) (h9 : t ≤ 1000010) (h10 : 0 ≤ no) (h11 : no ≤ 47999) (h12 : -2000 ≤ tu) (h13 : tu ≤ 2000) (w : World) :
  Calls Tryz.prog 121 #[.agg #[.int .i64 p,.int .i64 f,.int .i64 lo,.int .i64 hi,.int .i64 no,.int .i64 tu,.int .i64 sl,.int .i64 t]] w fun e w' => e = .returned (.agg #[.int .i64 (colP ⟨p,f,lo,hi,no,tu,sl⟩ t / 1000),.int .i64 (rowP ⟨p,f,lo,hi,no,tu,sl⟩ t / 1000)]) ∧ Below w.heap.size w w':=by
 have q : -4000000000 ≤ tu * t ∧ tu * t ≤ 4000000000:=by
  have a1 : tu * t ≤ 2000 * 1000010 ∨ tu * t ≤ 2000 * 1000010:=by
   by_cases ht : 0 ≤ t
   ·left
    exact Int.mul_le_mul h13 h9 ht (by omega)
   ·left
    have:=Int.mul_le_mul_of_nonpos_right h12 (show t ≤ 0 by omega)
    omega
  have a2 : -(2000 * 1000010) ≤ tu * t:=by
   by_cases ht : 0 ≤ t
   ·have:=Int.mul_le_mul_of_nonneg_right h12 ht
    omega
   ·have:=Int.mul_le_mul_of_nonpos_right h13 (show t ≤ 0 by omega)
    omega
  omega
 have C:=column_any p f lo hi no tu sl t q.1 q.2 h10 h11
 have R:=row_any p f lo hi no tu sl t h1 h2 h3 h4 h5 h6 h7 h8 h9
 have hY:=rowP_bd ⟨p,f,lo,hi,no,tu,sl⟩ t (by simp; omega) h5 h6
 simp only at hY
 have hc : colP ⟨p,f,lo,hi,no,tu,sl⟩ t = (no + tu * t) % 48000:=rfl
 rw [hc]
 have x1:=Int.emod_nonneg (no + tu * t) (b:=48000) (by omega)
 have x2:=Int.emod_lt_of_pos (no + tu * t) (b:=48000) (by omega)
 generalize (no + tu * t) % 48000 = X at C x1 x2 ⊢
 generalize rowP ⟨p,f,lo,hi,no,tu,sl⟩ t = Y at R hY ⊢
 obtain ⟨y1,y2⟩:=hY
 have HC:=Lib.hid C
 have HR:=Lib.hid R
 clear C R q hc
 go_enter Tryz.func121,Tryz.ntmps121
 go_wp2_with fail
 have K : Blk ((w.alloc (.cells #[.int .i64 p,.int .i64 f,.int .i64 lo,.int .i64 hi,.int .i64 no,.int .i64 tu,.int .i64 sl,.int .i64 t] 183)).alloc (.cells #[.int .i64 0,.int .i64 0] 69)) w.heap.size 183 #[.int .i64 p,.int .i64 f,.int .i64 lo,.int .i64 hi,.int .i64 no,.int .i64 tu,.int .i64 sl,.int .i64 t]:=(Blk.new _ _ _).alloc _
 have K2 : Blk ((w.alloc (.cells #[.int .i64 p,.int .i64 f,.int .i64 lo,.int .i64 hi,.int .i64 no,.int .i64 tu,.int .i64 sl,.int .i64 t] 183)).alloc (.cells #[.int .i64 0,.int .i64 0] 69)) (w.heap.size + 1) 69 #[.int .i64 0,.int .i64 0]:=by
  have k:=Blk.new (w.alloc (.cells #[.int .i64 p,.int .i64 f,.int .i64 lo,.int .i64 hi,.int .i64 no,.int .i64 tu,.int .i64 sl,.int .i64 t] 183)) 69 #[.int .i64 0,.int .i64 0]
  rw [World.size_alloc] at k
  exact k
 have hb : Below w.heap.size w ((w.alloc (.cells #[.int .i64 p,.int .i64 f,.int .i64 lo,.int .i64 hi,.int .i64 no,.int .i64 tu,.int .i64 sl,.int .i64 t] 183)).alloc (.cells #[.int .i64 0,.int .i64 0] 69)):=(by repeat (first | exact Below.refl _ _ | assumption | refine Below.drew ?_ | refine below_drewN ?_ _ | refine bl_alloc ?_ _ | refine Below.setCell ?_ (by first | (simp; done) | omega | (simp; omega)) _ | refine bl_then ?_ (by assumption)))
 generalize (w.alloc (.cells #[.int .i64 p,.int .i64 f,.int .i64 lo,.int .i64 hi,.int .i64 no,.int .i64 tu,.int .i64 sl,.int .i64 t] 183)).alloc (.cells #[.int .i64 0,.int .i64 0] 69) = W at K K2 hb ⊢
 have g0 : W.cell? ⟨w.heap.size,0,none⟩ = some (.int .i64 p):=K.cell 0
 have g1 : W.cell? ⟨w.heap.size,1,none⟩ = some (.int .i64 f):=K.cell 1
 have g2 : W.cell? ⟨w.heap.size,2,none⟩ = some (.int .i64 lo):=K.cell 2
 have g3 : W.cell? ⟨w.heap.size,3,none⟩ = some (.int .i64 hi):=K.cell 3
 have g4 : W.cell? ⟨w.heap.size,4,none⟩ = some (.int .i64 no):=K.cell 4
 have g5 : W.cell? ⟨w.heap.size,5,none⟩ = some (.int .i64 tu):=K.cell 5
 have g6 : W.cell? ⟨w.heap.size,6,none⟩ = some (.int .i64 sl):=K.cell 6
 have g7 : W.cell? ⟨w.heap.size,7,none⟩ = some (.int .i64 t):=K.cell 7
 refine wp_region_obl 7 (fun ix vals v w1 => match ix with | 0 => v = .agg #[.int .i64 p,.int .i64 f,.int .i64 lo,.int .i64 hi,.int .i64 no,.int .i64 tu,.int .i64 sl,.int .i64 t] | 1 => v = .int .i64 X | 2 => v = .int .i64 (X / 1000) | 3 => v = .agg #[.int .i64 p,.int .i64 f,.int .i64 lo,.int .i64 hi,.int .i64 no,.int .i64 tu,.int .i64 sl,.int .i64 t] | 4 => v = .int .i64 Y | 5 => v = .int .i64 (Y / 1000) | _ => v = .agg #[.int .i64 (X / 1000),.int .i64 (Y / 1000)]) (by kernel_rfl) (by kernel_rfl) ?_ ?_ ?_ ?_
 ·intro ix vals v w1 w2 hi hr hx; exact hr
 ·intro ix vals vals_ v w1 hi hv hr
  exact hr
 ·refine ⟨?_,?_,?_,?_,?_,?_,?_,trivial⟩
  ·intro vals w1 hx hd ha
   clear hd ha
   simp only [Lf]
   have g0:=ext_cell hx g0
   have g1:=ext_cell hx g1
   have g2:=ext_cell hx g2
   have g3:=ext_cell hx g3
   have g4:=ext_cell hx g4
   have g5:=ext_cell hx g5
   have g6:=ext_cell hx g6
   have g7:=ext_cell hx g7
   go_wp2
   exact q_
  ·intro vals w1 hx hd ha
   have e0 : vals 0 = .agg #[.int .i64 p,.int .i64 f,.int .i64 lo,.int .i64 hi,.int .i64 no,.int .i64 tu,.int .i64 sl,.int .i64 t]:=hd 0 (by decide)
   clear hd ha
   simp only [Lf,dstAt,Act.put,FR_]
   have g0:=ext_cell hx g0
   have g1:=ext_cell hx g1
   have g2:=ext_cell hx g2
   have g3:=ext_cell hx g3
   have g4:=ext_cell hx g4
   have g5:=ext_cell hx g5
   have g6:=ext_cell hx g6
   have g7:=ext_cell hx g7
   simp only [e0]
   clear e0
   go_wp2_with fail
   refine (HC.out _).mono ?_
   rintro e w2 ⟨rfl,hb2⟩
   go_wp2
   exact ⟨rfl,hb2,rfl⟩
  ·intro vals w1 hx hd ha
   have e1 : vals 1 = .int .i64 X:=hd 1 (by decide)
   clear hd ha
   simp only [Lf,dstAt,Act.put,FR_,e1]
   clear e1
   have g0:=ext_cell hx g0
   have g1:=ext_cell hx g1
   have g2:=ext_cell hx g2
   have g3:=ext_cell hx g3
   have g4:=ext_cell hx g4
   have g5:=ext_cell hx g5
   have g6:=ext_cell hx g6
   have g7:=ext_cell hx g7
   go_wp2
   exact q_
  ·intro vals w1 hx hd ha
   clear hd ha
   simp only [Lf,dstAt,Act.put,FR_]
   have g0:=ext_cell hx g0
   have g1:=ext_cell hx g1
   have g2:=ext_cell hx g2
   have g3:=ext_cell hx g3
   have g4:=ext_cell hx g4
   have g5:=ext_cell hx g5
   have g6:=ext_cell hx g6
   have g7:=ext_cell hx g7
   go_wp2
   exact q_
  ·intro vals w1 hx hd ha
   have e1 : vals 1 = .int .i64 X:=hd 1 (by decide)
   have e3 : vals 3 = .agg #[.int .i64 p,.int .i64 f,.int .i64 lo,.int .i64 hi,.int .i64 no,.int .i64 tu,.int .i64 sl,.int .i64 t]:=hd 3 (by decide)
   clear hd ha
   simp only [Lf,dstAt,Act.put,FR_]
   have g0:=ext_cell hx g0
   have g1:=ext_cell hx g1
   have g2:=ext_cell hx g2
   have g3:=ext_cell hx g3
   have g4:=ext_cell hx g4
   have g5:=ext_cell hx g5
   have g6:=ext_cell hx g6
   have g7:=ext_cell hx g7
   simp only [e1]
   simp only [e3]
   clear e1 e3
   go_wp2_with fail
   refine (HR.out _).mono ?_
   rintro e w2 ⟨rfl,hb2⟩
   go_wp2
   exact ⟨rfl,hb2,rfl⟩
  ·intro vals w1 hx hd ha
   have e4 : vals 4 = .int .i64 Y:=hd 4 (by decide)
   clear hd ha
   simp only [Lf,dstAt,Act.put,FR_,e4]
   clear e4
   have g0:=ext_cell hx g0
   have g1:=ext_cell hx g1
   have g2:=ext_cell hx g2
   have g3:=ext_cell hx g3
   have g4:=ext_cell hx g4
   have g5:=ext_cell hx g5
   have g6:=ext_cell hx g6
   have g7:=ext_cell hx g7
   go_wp2
   exact q_
  ·intro vals w1 hx hd ha
   have e2 : vals 2 = .int .i64 (X / 1000):=hd 2 (by decide)
   have e5 : vals 5 = .int .i64 (Y / 1000):=hd 5 (by decide)
   clear hd ha
   simp only [Lf,dstAt,Act.put,FR_,e2,e5]
   clear e2 e5
   have g0:=ext_cell hx g0
   have g1:=ext_cell hx g1
   have g2:=ext_cell hx g2
   have g3:=ext_cell hx g3
   have g4:=ext_cell hx g4
   have g5:=ext_cell hx g5
   have g6:=ext_cell hx g6
   have g7:=ext_cell hx g7
   go_wp2
   exact q_
 intro vals w2 hx hf
 have e6 : vals 6 = .agg #[.int .i64 (X / 1000),.int .i64 (Y / 1000)]:=hf 6 (by omega)
 clear hf
 have hx:=hx.undrew
 have hB2 : Below w.heap.size w w2:=hb.trans (Below.mono hx hb.size)
 have K3:=K2.ext hx
 refine tail1 7 _ (by kernel_rfl) (by kernel_rfl) rfl ?_
 simp only [Lf,dstAt,Act.put,FR_]
 rw [e6]
 clear e6
 have k0:=K3.frozen 0
 have k1:=K3.frozen 1
 have c0:=K3.cell 0
 have c1:=K3.cell 1
 go_wp2
 have K4:=(K3.set_ 0 (.int .i64 (X / 1000))).set_ 1 (.int .i64 (Y / 1000))
 have hB4 : Below w.heap.size w ((w2.setCell ⟨w.heap.size + 1,0,none⟩ (.int .i64 (X / 1000))).setCell ⟨w.heap.size + 1,1,none⟩ (.int .i64 (Y / 1000))):=(by repeat (first | exact Below.refl _ _ | assumption | refine Below.drew ?_ | refine below_drewN ?_ _ | refine bl_alloc ?_ _ | refine Below.setCell ?_ (by first | (simp; done) | omega | (simp; omega)) _ | refine bl_then ?_ (by assumption)))
 generalize (w2.setCell ⟨w.heap.size + 1,0,none⟩ (.int .i64 (X / 1000))).setCell ⟨w.heap.size + 1,1,none⟩ (.int .i64 (Y / 1000)) = w4 at K4 hB4 ⊢
 have c2 : w4.cell? ⟨w.heap.size + 1,0,none⟩ = some (.int .i64 (X / 1000)):=K4.cell 0
 have c3 : w4.cell? ⟨w.heap.size + 1,1,none⟩ = some (.int .i64 (Y / 1000)):=K4.cell 1
 exact bodyPost_ret (v:=.agg #[.int .i64 (X / 1000),.int .i64 (Y / 1000)]) (by simp [results,Tryz.results121,go_sem,c2,c3]) rfl ⟨rfl,hB4⟩
end Go.Proofs.YtjidhhfabfnhnaaGreat
