/- Passes (printed by contact_b5.py). -/
import Derived.Test.YtjidhhfabfnhnaaGreatK15
import Derived.Test.YtjidhhfabfnhnaaGreatK19
import Derived.Test.YtjidhhfabfnhnaaGreatK08
namespace Go.Proofs.YtjidhhfabfnhnaaGreat
open Go.RowKit Go.Shelf
attribute [local go_sem] Oper.semAt_some
def PassesRet (r : Option (List Pas)) (w : World) (e : Ending) (w' : World) : Prop:=match r with
 | none => e = .returned (.tuple #[.slice none 0 0,.int .i64 90]) ∧ Below w.heap.size w w'
 | some l => ∃ v,e = .returned (.tuple #[v,.int .i64 0]) ∧ w'.ownsRow w.heap.size 75 6 v l.length (l.flatMap pasCells) ∧ Below w.heap.size w w'
def SortC (N : Nat) : Prop:=∀ (base g n c : Nat) (l : List Pas) (w : World),RowS pasCells 6 base 75 g n c w l → n ≤ N →
 Calls Tryz.prog 49 #[.slice (some ⟨g,0,none⟩) n c,.func (.func 68) #[] #[]] w
   fun e w' => e = .returned (.tuple #[]) ∧ RowS pasCells 6 base 75 g n c w' (sortP (ltOf cmpPas) l) ∧ w.grownBy w' (some g)
structure PI (w : World) (gp gu : Nat) (a b : Int) (out : List Pas) (Ds : List Nat) (W : World) : Prop where
 kp : Blk W gp 32 #[.int .i64 a,.int .i64 b]
 row : ∃ v,Blk W gu 36 #[v] ∧ W.ownsRow w.heap.size 75 6 v out.length (out.flatMap pasCells) ∧ (out.length = 0 → v = .slice none 0 0)
 below : Below w.heap.size w W
 marks : MarksOK w.heap.size Ds W
structure TI (wr : World) (g9 gl gt : Nat) (X : Array Value) (sl : Int) (o : Orb) (m0 : Int) (j : Nat) (W : World) : Prop where
 ext : Ext wr W
 kx : Blk W g9 53 X
 kl : Blk W gl 3 #[.int .i64 sl]
 row : ∃ v,Blk W gt 146 #[v] ∧ W.ownsRow (gt + 1) 69 2 v j ((trackP o m0 j).flatMap celCells) ∧ (j = 0 → v = .slice none 0 0)
theorem info_cel : (Tryz.prog.info? 69).map (fun i => (i.zero,i.size,i.bytes)) = some (some (.agg #[.int .i64 0,.int .i64 0]),2,16):=by kernel_rfl
structure TT (g9 gl gt gr n c : Nat) (X : Array Value) (sl : Int) (o : Orb) (m0 : Int) (W : World) : Prop where
 kx : Blk W g9 53 X
 kl : Blk W gl 3 #[.int .i64 sl]
 kt : Blk W gt 146 #[.slice (some ⟨gr,0,none⟩) n c]
 kr : RowS celCells 2 (gt + 1) 69 gr n c W (trackP o m0 n)
theorem TT.ext {g9 gl gt gr n c : Nat} {X : Array Value} {sl : Int} {o : Orb} {m0 : Int} {W W' : World} (h : TT g9 gl gt gr n c X sl o m0 W) (hx : Ext W W') : TT g9 gl gt gr n c X sl o m0 W':=⟨h.kx.ext hx,h.kl.ext hx,h.kt.ext hx,h.kr.ext hx⟩
theorem PI.ext {w W W' : World} {gp gu : Nat} {a b : Int} {out : List Pas} {Ds : List Nat} (h : PI w gp gu a b out Ds W) (hx : Ext W W') : PI w gp gu a b out Ds W':=by
 obtain ⟨v,k1,k2,k3⟩:=h.row
 exact ⟨h.kp.ext hx,⟨v,k1.ext hx,own_ext k2 hx,k3⟩,bl_then h.below hx,h.marks.ext hx⟩
theorem run_append_prec2 {P : Program} (w : World) (base : Nat) (t ty e : TypeId) (i : TypeInfo) (z : Value) (size bytes : Nat) (ht : P.underlying t = some (.slice e)) (hi : P.info? e = some i) (hz : i.zero = some z)
  (hsize : i.size = size) (hby : i.bytes = bytes) (hzs : z.cells.size = size) (hsz : 2 ≤ size)
  (v : Value) (k : Nat) (xs : List Value) (hown : w.ownsRow base e size v k xs) (hnil : k = 0 → v = .slice none 0 0)
  (ad : Addr) (c : Nat) (news : List Value) (hn : news.length = size) (hc : ∀ j u,news[j]? = some u → w.cell? (ad.add j) = some u) (h1 : ∀ u ∈ news,u.oneCell' = true)
  (b1 : k + 1 ≤ maxLen) (b2 : (k + 1) * bytes ≤ 140737488355328) (b3 : base ≤ w.heap.size) :
  ∃ (v' : Value) (w' : World),(Builtin.append_ #[t,t] ty #[v,.slice (some ad) 1 c]).run P w = .ok v' w' ∧ w'.ownsRow base e size v' (k + 1) (xs ++ news) ∧ w.grownBy w' v.ownBlock ∧
   (∀ (g : Nat) (cs : Array Value) (t' : TypeId),w.heap[g]? = some (Obj.cells cs t' (0,0)) → cs.size = 2 → w'.heap[g]? = w.heap[g]?) ∧ ∀ q,v'.ownBlock = some q → v.ownBlock = some q ∨ w.heap.size ≤ q:=by
 obtain ⟨v1,w1,e1,e2,e3,e4⟩:=run_append_prec (P:=P) w base t ty e i z size bytes ht hi hz hsize hby hzs hsz v k xs hown hnil ad c news hn hc h1 b1 b2 b3
 refine ⟨v1,w1,e1,e2,e3,e4,?_⟩
 have hn1 : news.length = 1 * size:=by omega
 rcases hown.2 with ⟨rfl,rfl⟩ | ⟨g0,cap,cur,rfl,hg0,hh,hcap,hmax,hcur,htk⟩
 ·obtain ⟨v',w',h1',h2,h3,_⟩:=run_append_own (P:=P) w w.heap.size t ty e i z size bytes ht hi hz hsize hby hzs (by omega) _ 0 xs ⟨hown.1,.inl ⟨rfl,rfl⟩⟩ ad 1 c news hn1 hc h1 (by omega) (by omega) (Nat.le_refl _)
  rw [e1] at h1'
  injection h1' with h1' _
  subst h1'
  exact fun q hq => .inr (World.ownsRow.lt h2 q hq).1
 ·by_cases hroom : k + 1 ≤ cap
  ·obtain ⟨w',h1',h2,h3⟩:=run_append_fits (P:=P) w base t ty e i size ht hi hsize g0 k cap xs hown ad 1 c news hn1 hc h1 hroom
   rw [e1] at h1'
   injection h1' with h1' _
   subst h1'
   exact fun q hq => .inl hq
  ·obtain ⟨v',w',h1',h2,h3⟩:=run_append_arg_grows (P:=P) w t ty e i z size bytes ht hi hz hsize hby hzs (by omega) ⟨g0,0,none⟩ k cap xs hown.1 (fun j u hu => hown.cells (g:=g0) rfl j u hu) ad 1 c news hn1 hc (by omega) b1 b2
   rw [e1] at h1'
   injection h1' with h1' hw
   subst h1' hw
   exact fun q hq => .inr (World.ownsRow.lt h2 q hq).1
theorem KpS.append2 {ex : Nat → Prop} {B0 : Nat} {W W' : World} {v : Value} (h : ∀ q,v.ownBlock = some q → ex q ∨ B0 ≤ q) (hg : W.grownBy W' v.ownBlock)
  (hp : ∀ (g : Nat) (cs : Array Value) (t' : TypeId),W.heap[g]? = some (Obj.cells cs t' (0,0)) → cs.size = 2 → W'.heap[g]? = W.heap[g]?) : KpS ex B0 W W' :=
 ⟨hg.size,fun j cs t hj hx hz => by
  rcases hz with hz | hz
  ·exact hg.block j (Array.getElem?_eq_some_iff.1 hj).1 fun e' => by rcases h j e'.symm with h | h; exact hx h; omega
  ·exact hp j cs t hj hz⟩
theorem keeps_ext {W W' : World} (h : Ext W W') : KeepsOthers W W':=⟨h.size,fun k _ hk _ => (h.block k (Array.getElem?_eq_some_iff.1 hk).1).trans hk⟩
structure RI (w : World) (gp gu g9 gl gt gr gs n c : Nat) (X S : Array Value) (sl a b : Int) (o : Orb) (out0 : List Pas) (mk : Spl → Pas) (Ds : List Nat) (B0 : Nat) (v0 : Value) (pre : List BSpl) (W : World) : Prop where
 kp : Blk W gp 32 #[.int .i64 a,.int .i64 b]
 ks : Blk W gs 71 S
 row : ∃ v,Blk W gu 36 #[v] ∧ W.ownsRow w.heap.size 75 6 v (out0 ++ (pre.map (·.1)).map mk).length ((out0 ++ (pre.map (·.1)).map mk).flatMap pasCells) ∧ ((out0 ++ (pre.map (·.1)).map mk).length = 0 → v = .slice none 0 0) ∧ (∀ q,v.ownBlock = some q → v0.ownBlock = some q ∨ B0 ≤ q)
 below : Below w.heap.size w W
 marks : MarksOK w.heap.size Ds W
 mlt : ∀ D ∈ Ds,D < B0
 tt : TT g9 gl gt gr n c X sl o (a - sl) W
 size : B0 ≤ W.heap.size
theorem ri_own {w : World} {gp gu g9 gl gt gr gs n c : Nat} {X S : Array Value} {sl a b : Int} {o : Orb} {out0 : List Pas} {mk : Spl → Pas} {Ds : List Nat} {B0 : Nat} {v0 : Value} (h : w.heap.size ≤ B0) : OwnFrom B0 (RI w gp gu g9 gl gt gr gs n c X S sl a b o out0 mk Ds B0 v0):=by
 rintro pre U V row ⟨k1,k2,⟨v,r1,r2,r3,r4⟩,k4,k5,k6,k7,k8⟩ hgr hr
 refine ⟨blk_kept k1 hgr hr,blk_kept k2 hgr hr,⟨v,blk_kept r1 hgr hr,own_kept r2 hgr hr,r3,r4⟩,k4.grown hgr k4.size (fun k e => Nat.le_trans h (hr k e).1),⟨k5.nodup,fun D hD => ⟨(k5.ok D hD).1,?_⟩⟩,k6,⟨blk_kept k7.kx hgr hr,blk_kept k7.kl hgr hr,blk_kept k7.kt hgr hr,⟨k7.kr.1,own_kept k7.kr.2 hgr hr⟩⟩,Nat.le_trans k8 hgr.size⟩
 exact (hgr.block D (k5.lt D hD) (fun e => by have:=(hr D e.symm).1; have:=k6 D hD; omega)).trans (k5.ok D hD).2
theorem RowS.blk {α : Type} {cells : α → List Value} {s base : Nat} {e : TypeId} {g n c : Nat} {w : World} {l : List α} (h : RowS cells s base e g n c w l) : ∃ cur,Blk w g e cur:=by
 rcases h.2.2 with ⟨h',_⟩ | ⟨g',cap',cur,h',_,hg,_⟩
 ·simp at h'
 ·simp only [Value.slice.injEq,Option.some.injEq,Addr.mk.injEq,and_true,true_and] at h'
  obtain ⟨rfl,rfl⟩:=h'
  exact ⟨cur,hg⟩
theorem RowS.same {α : Type} {cells : α → List Value} {s base : Nat} {e : TypeId} {g n c : Nat} {w w' : World} {l : List α} (h : RowS cells s base e g n c w l) (hg : w'.heap[g]? = w.heap[g]?) : RowS cells s base e g n c w' l:=by
 refine ⟨h.1,h.2.1,?_⟩
 rcases h.2.2 with ⟨h',_⟩ | ⟨g',cap',cur,h',hb,hh,r⟩
 ·simp at h'
 ·simp only [Value.slice.injEq,Option.some.injEq,Addr.mk.injEq,and_true,true_and] at h'
  obtain ⟨rfl,rfl⟩:=h'
  exact .inr ⟨g,c,cur,rfl,hb,hg.trans hh,r⟩
theorem info_pas : (Tryz.prog.info? 75).map (fun i => (i.zero,i.size,i.bytes)) = some (some (.agg #[.int .i64 0,.int .i64 0,.int .i64 0,.int .i64 0,.int .i64 0,.int .i64 0]),6,48):=by kernel_rfl
def outK (sats : List St) (stns : List Stn) (a b : Int) (k : Nat) : List Pas:=(sats.take k).flatMap fun s => stns.flatMap (pairP s ⟨a,b⟩)
def NilJ (w : World) (gu : Nat) (W : World) : Prop:=Blk W gu 36 #[.slice none 0 0] ∧ Below w.heap.size w W
theorem nilJ_own (w : World) (gu : Nat) : OwnFrom w.heap.size (fun (_ : Unit) W => NilJ w gu W):=by
 rintro _ U V row ⟨h1,h2⟩ hgr hr
 exact ⟨blk_kept h1 hgr hr,h2.grown hgr h2.size (fun k e => (hr k e).1)⟩
def EndJ (w : World) (gu : Nat) (v : Value) (l : List Pas) (W : World) : Prop:=Blk W gu 36 #[v] ∧ W.ownsRow w.heap.size 75 6 v l.length (l.flatMap pasCells) ∧ Below w.heap.size w W
theorem endJ_own (w : World) (gu : Nat) (v : Value) (l : List Pas) : OwnFrom w.heap.size (fun (_ : Unit) W => EndJ w gu v l W):=by
 rintro _ U V row ⟨h1,h2,h3⟩ hgr hr
 exact ⟨blk_kept h1 hgr hr,own_kept h2 hgr hr,h3.grown hgr h3.size (fun k e => (hr k e).1)⟩
theorem out_le (sats : List St) (stns : List Stn) (a b : Int) (k i : Nat) (s : St) (hk : k < sats.length) (hs : s = sats[k]) : (outK sats stns a b k ++ (stns.take i).flatMap (pairP s ⟨a,b⟩)).length ≤ (allP sats stns ⟨a,b⟩).length:=by
 have h1 : sats.take k ++ s :: sats.drop (k + 1) = sats:=by rw [hs]; simp
 have h2 : allP sats stns ⟨a,b⟩ = outK sats stns a b k ++ (stns.flatMap (pairP s ⟨a,b⟩) ++ (sats.drop (k + 1)).flatMap fun s => stns.flatMap (pairP s ⟨a,b⟩)):=by
  rw [outK,← List.flatMap_cons (f:=fun s => stns.flatMap (pairP s ⟨a,b⟩)),← List.flatMap_append,h1]; rfl
 have h3 : stns.flatMap (pairP s ⟨a,b⟩) = (stns.take i).flatMap (pairP s ⟨a,b⟩) ++ (stns.drop i).flatMap (pairP s ⟨a,b⟩):=by rw [← List.flatMap_append,List.take_append_drop]
 rw [h2,h3]
 simp only [List.length_append]
 omega
theorem out_succ (sats : List St) (stns : List Stn) (a b : Int) (k : Nat) (s : St) (hk : k < sats.length) (hs : s = sats[k]) : outK sats stns a b k ++ (stns.take stns.length).flatMap (pairP s ⟨a,b⟩) = outK sats stns a b (k + 1):=by
 rw [List.take_length,outK,outK,List.take_succ_eq_append_getElem hk,List.flatMap_append,← hs]
 simp
theorem stn_succ (stns : List Stn) (a b : Int) (s : St) (i : Nat) (st : Stn) (hi : i < stns.length) (hs : st = stns[i]) : (stns.take (i + 1)).flatMap (pairP s ⟨a,b⟩) = (stns.take i).flatMap (pairP s ⟨a,b⟩) ++ pairP s ⟨a,b⟩ st:=by
 rw [List.take_succ_eq_append_getElem hi,List.flatMap_append,← hs]
 simp
def PS (sats : List St) (stns : List Stn) (w : World) (gp gu : Nat) (a b : Int) (k : Nat) (s : St) (i : Nat) (Ds : List Nat) (W : World) : Prop :=
 (outK sats stns a b k ++ (stns.take i).flatMap (pairP s ⟨a,b⟩)).length ≤ 64 ∧ PI w gp gu a b (outK sats stns a b k ++ (stns.take i).flatMap (pairP s ⟨a,b⟩)) Ds W
def PL (sats : List St) (stns : List Stn) (w : World) (gp gu : Nat) (a b : Int) (k : Nat) (Ds : List Nat) (W : World) : Prop:=(outK sats stns a b k).length ≤ 64 ∧ PI w gp gu a b (outK sats stns a b k) Ds W
set_option maxRecDepth 100000 in
set_option maxHeartbeats 8000000 in
theorem Passes_in (N : Nat) (hsort : SortC N) (sats : List St) (stns : List Stn) (SA TA : Option Addr) (sn sc tn tc : Nat) (a b : Int) (w : World) (hS : RA satCells 21 w w.heap.size SA sn sc sats) (hT : RA stnCells 6 w w.heap.size TA tn tc stns)
  (hN : (allP sats stns ⟨a,b⟩).length ≤ 64 → (allP sats stns ⟨a,b⟩).length ≤ N) :
  CallsIn Fence.wide 10 Tryz.prog 35 #[.slice SA sn sc,.slice TA tn tc,.agg #[.int .i64 a,.int .i64 b]] w (PassesRet (passesP sats stns ⟨a,b⟩) w):=by
 have V1:=isSpan_any a b
 have V2:=fun w h => validSats_any sats SA sn sc w h
 have V3:=fun w h => validStns_any stns TA tn tc w h
 have hsp : spanOK ⟨a,b⟩ = true → 0 ≤ a ∧ a < b ∧ b ≤ 1000001 ∧ b - a ≤ 4320:=fun h => by simpa [spanOK] using h
 have hsa:=@sats_at sats
 have hst:=@stns_at stns
 have f1 : spanOK ⟨a,b⟩ = false → passesP sats stns ⟨a,b⟩ = none:=fun h => by rw [passesP,h]; rfl
 have f2 : satsOK sats = false → passesP sats stns ⟨a,b⟩ = none:=fun h => by rw [passesP,h,Bool.and_false,Bool.false_and]; rfl
 have f3 : stnsOK stns = false → passesP sats stns ⟨a,b⟩ = none:=fun h => by rw [passesP,h,Bool.and_false]; rfl
 have f4 : spanOK ⟨a,b⟩ = true → satsOK sats = true → stnsOK stns = true → passesP sats stns ⟨a,b⟩ = if (allP sats stns ⟨a,b⟩).length ≤ 64 then some (sortP (ltOf cmpPas) (allP sats stns ⟨a,b⟩)) else none:=fun h1 h2 h3 => by rw [passesP,h1,h2,h3]; rfl
 generalize passesP sats stns ⟨a,b⟩ = res at f1 f2 f3 f4 ⊢
 generalize spanOK ⟨a,b⟩ = q1 at V1 hsp f1 f4 ⊢
 generalize satsOK sats = q2 at V2 hsa f2 f4 ⊢
 generalize stnsOK stns = q3 at V3 hst f3 f4 ⊢
 have HF1:=Lib.hid f1
 have HF2:=Lib.hid f2
 have HF3:=Lib.hid f3
 have HF4:=Lib.hid f4
 clear f1 f2 f3 f4
 have HSP:=Lib.hid hsp
 have HSA:=Lib.hid hsa
 have HST:=Lib.hid hst
 have H1:=Lib.hid V1
 have H2:=Lib.hid V2
 have H3:=Lib.hid V3
 have HS:=Lib.hid hS
 have HT:=Lib.hid hT
 have HN:=Lib.hid hN
 have HSORT:=Lib.hid hsort
 have hsc:=hS.cap
 have hsm:=hS.capM
 have hsl:=hS.le
 have htc:=hT.cap
 have htm:=hT.capM
 have htl:=hT.le
 have HSL:=Lib.hid hS.len
 have HTL:=Lib.hid hT.len
 clear V1 V2 V3 hsp hsa hst hS hT hN hsort
 unfold maxLen at hsm htm
 refine callsIn_of_wp_marks Tryz.func35 rfl trivial ?_ rfl
 simp only [Tryz.ntmps35,List.size_toArray,List.length_cons,List.length_nil,Nat.reduceAdd,Nat.reduceSub,Array.replicate_succ,Array.replicate_zero,List.push_toArray,List.append_toArray,List.nil_append,List.cons_append]
 gi_wp2_with fail
 generalize hW0 : (w.alloc (.cells #[.int .i64 a,.int .i64 b] 32)).alloc (.cells #[.slice none 0 0] 36) = W0
 obtain ⟨gp,hgp⟩ : ∃ k,k = w.heap.size:=⟨_,rfl⟩
 obtain ⟨gu,hgu⟩ : ∃ k,k = w.heap.size + 1:=⟨_,rfl⟩
 have Kgp : Blk W0 gp 32 #[.int .i64 a,.int .i64 b]:=by subst hW0; exact (Blk.new_at _ _ _ hgp.symm).alloc _
 have Kgu : Blk W0 gu 36 #[.slice none 0 0]:=by subst hW0; exact Blk.new_at _ _ _ (by simp [hgu])
 have hB : Below w.heap.size w W0:=by subst hW0; exact (by repeat (first | exact Below.refl _ _ | assumption | refine Below.drew ?_ | refine below_drewN ?_ _ | refine bl_alloc ?_ _ | refine Below.setCell ?_ (by first | (simp; done) | omega | (simp; omega)) _ | refine bl_then ?_ (by assumption)))
 rw [← hgu,← hgp]
 have HHgp:=Lib.hid hgp
 have HHgu:=Lib.hid hgu
 clear hW0 hgp hgu
 refine ⟨trivial,(callsIn_wide.2 (H1.out _)).mono ?_⟩
 rintro e W1 ⟨rfl,hx⟩
 have Kgp:=Kgp.ext hx
 have Kgu:=Kgu.ext hx
 have hB:=bl_then hB hx
 clear hx
 cases q1
 ·skip
  have u0 : W1.cell? ⟨gu,0,none⟩ = some (.slice none 0 0):=Kgu.cell 0
  have u1 : W1.frozen? ⟨gu,0,none⟩ = false:=Kgu.frozen 0
  gi_wp2_with fail
  refine ⟨trivial,?_⟩
  gi_wp2_with fail
  refine ⟨trivial,?_⟩
  gi_wp2_with fail
  have u2 : (W1.setCell ⟨gu,0,none⟩ (.slice none 0 0)).cell? ⟨gu,0,none⟩ = some (.slice none 0 0):=(Kgu.set_ 0 _).cell 0
  have hb2:=hB.setCell (p:=⟨gu,0,none⟩) (by have:=HHgu.out; show w.heap.size ≤ gu; omega) (.slice none 0 0)
  have hr0 : res = none:=by first | exact HF1.out rfl | exact HF1.out trivial
  exact ⟨.tuple #[.slice none 0 0,.int .i64 90],by simp [results,Tryz.results35,go_sem,u2],by rw [hr0]; exact ⟨rfl,hb2⟩⟩
 ·skip
  gi_wp2_with fail
  refine ⟨trivial,(callsIn_wide.2 (H2.out _ ((HS.out.below hB).more hB.size))).mono ?_⟩
  rintro e W2 ⟨rfl,hx⟩
  have Kgp:=Kgp.ext hx
  have Kgu:=Kgu.ext hx
  have hB:=bl_then hB hx
  clear hx
  cases q2
  ·skip
   have u0 : W2.cell? ⟨gu,0,none⟩ = some (.slice none 0 0):=Kgu.cell 0
   have u1 : W2.frozen? ⟨gu,0,none⟩ = false:=Kgu.frozen 0
   gi_wp2_with fail
   refine ⟨trivial,?_⟩
   gi_wp2_with fail
   have u2 : (W2.setCell ⟨gu,0,none⟩ (.slice none 0 0)).cell? ⟨gu,0,none⟩ = some (.slice none 0 0):=(Kgu.set_ 0 _).cell 0
   have hb2:=hB.setCell (p:=⟨gu,0,none⟩) (by have:=HHgu.out; show w.heap.size ≤ gu; omega) (.slice none 0 0)
   have hr0 : res = none:=by first | exact HF2.out rfl | exact HF2.out trivial
   exact ⟨.tuple #[.slice none 0 0,.int .i64 90],by simp [results,Tryz.results35,go_sem,u2],by rw [hr0]; exact ⟨rfl,hb2⟩⟩
  ·skip
   gi_wp2_with fail
   refine ⟨trivial,(callsIn_wide.2 (H3.out _ ((HT.out.below hB).more hB.size))).mono ?_⟩
   rintro e W3 ⟨rfl,hx⟩
   have Kgp:=Kgp.ext hx
   have Kgu:=Kgu.ext hx
   have hB:=bl_then hB hx
   clear hx
   cases q3
   ·skip
    have u0 : W3.cell? ⟨gu,0,none⟩ = some (.slice none 0 0):=Kgu.cell 0
    have u1 : W3.frozen? ⟨gu,0,none⟩ = false:=Kgu.frozen 0
    gi_wp2_with fail
    have u2 : (W3.setCell ⟨gu,0,none⟩ (.slice none 0 0)).cell? ⟨gu,0,none⟩ = some (.slice none 0 0):=(Kgu.set_ 0 _).cell 0
    have hb2:=hB.setCell (p:=⟨gu,0,none⟩) (by have:=HHgu.out; show w.heap.size ≤ gu; omega) (.slice none 0 0)
    have hr0 : res = none:=by first | exact HF3.out rfl | exact HF3.out trivial
    exact ⟨.tuple #[.slice none 0 0,.int .i64 90],by simp [results,Tryz.results35,go_sem,u2],by rw [hr0]; exact ⟨rfl,hb2⟩⟩
   ·skip
    have hq : 0 ≤ a ∧ a < b ∧ b ≤ 1000001 ∧ b - a ≤ 4320:=by first | exact HSP.out rfl | exact HSP.out trivial
    have hsat : sats.length ≤ 24 ∧ ∀ x ∈ sats,satOK x = true:=by first | exact HSA.out rfl | exact HSA.out trivial
    have hstn : stns.length ≤ 12 ∧ ∀ x ∈ stns,stnOK x = true:=by first | exact HST.out rfl | exact HST.out trivial
    clear HSP HSA HST H1 H2 H3
    have HSAT:=Lib.hid hsat
    have HSTN:=Lib.hid hstn
    clear hsat hstn
    have hPI0 : PL sats stns w gp gu a b 0 [] W3:=⟨by simp [outK],Kgp,⟨_,Kgu,World.ownsRow_nil _ _ _ _,fun _ => rfl⟩,hB,MarksOK.nil _ _⟩
    have HPI0:=Lib.hid hPI0
    clear hPI0 Kgp Kgu hB
    gi_wp2_with fail
    refine wpIn_loop (fun a' w' => ∃ (ds : List Deferred) (u7 u9 u10 u11 u12 u13 u14 u15 u16 u17 u18 u19 u36 u37 u38 u39 u40 u41 u42 u43 u44 u45 u46 u47 u48 u49 u50 u51 u52 u53 u54 u55 u56 u57 u58 u59 u60 u61 u62 u63 u64 u65 u66 u67 u68 u69 u70 u71 u72 u73 u74 u75 u76 u77 u78 u79 u80 u81 u82 u83 u84 u85 u86 u87 u88 u89 u90 u91 u92 u93 u94 u95 u96 u97 u98 u99 u100 u101 u102 u103 u104 u105 u106 u107 u108 u109 u110 u111 u112 u35 : Value),(∃ (k : Nat) (Ds : List Nat),k ≤ sn ∧ u35 = .int .i64 k ∧ ds = Ds.map mark ∧ Hid (PL sats stns w gp gu a b k Ds w')) ∧ a' = { tmps:=#[.slice SA sn sc,.slice TA tn tc,.agg #[.int .i64 a,.int .i64 b],undef,undef,.pointer (some ⟨gp,0,none⟩),.pointer (some ⟨gu,0,none⟩),u7,undef,u9,u10,u11,u12,u13,u14,u15,u16,u17,u18,u19,.agg #[.int .i64 a,.int .i64 b],.bool true,.bool false,.bool false,.slice SA sn sc,.bool true,.bool false,.bool false,.bool false,.slice TA tn tc,.bool true,.bool false,.bool false,.slice SA sn sc,.int .i64 (sn : Int),u35,u36,u37,u38,u39,u40,u41,u42,u43,u44,u45,u46,u47,u48,u49,u50,u51,u52,u53,u54,u55,u56,u57,u58,u59,u60,u61,u62,u63,u64,u65,u66,u67,u68,u69,u70,u71,u72,u73,u74,u75,u76,u77,u78,u79,u80,u81,u82,u83,u84,u85,u86,u87,u88,u89,u90,u91,u92,u93,u94,u95,u96,u97,u98,u99,u100,u101,u102,u103,u104,u105,u106,u107,u108,u109,u110,u111,u112,undef,undef,undef],defers:=ds }) (fun a' _ => sn - (intOf (a'.tmps.getD 35 undef)).toNat) ?_ ?_
    ·exact ⟨[],_,_,_,_,_,_,_,_,_,_,_,_,_,_,_,_,_,_,_,_,_,_,_,_,_,_,_,_,_,_,_,_,_,_,_,_,_,_,_,_,_,_,_,_,_,_,_,_,_,_,_,_,_,_,_,_,_,_,_,_,_,_,_,_,_,_,_,_,_,_,_,_,_,_,_,_,_,_,_,_,_,_,_,_,_,_,_,_,_,_,⟨0,[],Nat.zero_le _,rfl,rfl,HPI0⟩,rfl⟩
    ·clear HPI0
     intro a_ wr hinv
     obtain ⟨ds,hinv⟩:=hinv
     obtain ⟨u7,hinv⟩:=hinv
     obtain ⟨u9,hinv⟩:=hinv
     obtain ⟨u10,hinv⟩:=hinv
     obtain ⟨u11,hinv⟩:=hinv
     obtain ⟨u12,hinv⟩:=hinv
     obtain ⟨u13,hinv⟩:=hinv
     obtain ⟨u14,hinv⟩:=hinv
     obtain ⟨u15,hinv⟩:=hinv
     obtain ⟨u16,hinv⟩:=hinv
     obtain ⟨u17,hinv⟩:=hinv
     obtain ⟨u18,hinv⟩:=hinv
     obtain ⟨u19,hinv⟩:=hinv
     obtain ⟨u36,hinv⟩:=hinv
     obtain ⟨u37,hinv⟩:=hinv
     obtain ⟨u38,hinv⟩:=hinv
     obtain ⟨u39,hinv⟩:=hinv
     obtain ⟨u40,hinv⟩:=hinv
     obtain ⟨u41,hinv⟩:=hinv
     obtain ⟨u42,hinv⟩:=hinv
     obtain ⟨u43,hinv⟩:=hinv
     obtain ⟨u44,hinv⟩:=hinv
     obtain ⟨u45,hinv⟩:=hinv
     obtain ⟨u46,hinv⟩:=hinv
     obtain ⟨u47,hinv⟩:=hinv
     obtain ⟨u48,hinv⟩:=hinv
     obtain ⟨u49,hinv⟩:=hinv
     obtain ⟨u50,hinv⟩:=hinv
     obtain ⟨u51,hinv⟩:=hinv
     obtain ⟨u52,hinv⟩:=hinv
     obtain ⟨u53,hinv⟩:=hinv
     obtain ⟨u54,hinv⟩:=hinv
     obtain ⟨u55,hinv⟩:=hinv
     obtain ⟨u56,hinv⟩:=hinv
     obtain ⟨u57,hinv⟩:=hinv
     obtain ⟨u58,hinv⟩:=hinv
     obtain ⟨u59,hinv⟩:=hinv
     obtain ⟨u60,hinv⟩:=hinv
     obtain ⟨u61,hinv⟩:=hinv
     obtain ⟨u62,hinv⟩:=hinv
     obtain ⟨u63,hinv⟩:=hinv
     obtain ⟨u64,hinv⟩:=hinv
     obtain ⟨u65,hinv⟩:=hinv
     obtain ⟨u66,hinv⟩:=hinv
     obtain ⟨u67,hinv⟩:=hinv
     obtain ⟨u68,hinv⟩:=hinv
     obtain ⟨u69,hinv⟩:=hinv
     obtain ⟨u70,hinv⟩:=hinv
     obtain ⟨u71,hinv⟩:=hinv
     obtain ⟨u72,hinv⟩:=hinv
     obtain ⟨u73,hinv⟩:=hinv
     obtain ⟨u74,hinv⟩:=hinv
     obtain ⟨u75,hinv⟩:=hinv
     obtain ⟨u76,hinv⟩:=hinv
     obtain ⟨u77,hinv⟩:=hinv
     obtain ⟨u78,hinv⟩:=hinv
     obtain ⟨u79,hinv⟩:=hinv
     obtain ⟨u80,hinv⟩:=hinv
     obtain ⟨u81,hinv⟩:=hinv
     obtain ⟨u82,hinv⟩:=hinv
     obtain ⟨u83,hinv⟩:=hinv
     obtain ⟨u84,hinv⟩:=hinv
     obtain ⟨u85,hinv⟩:=hinv
     obtain ⟨u86,hinv⟩:=hinv
     obtain ⟨u87,hinv⟩:=hinv
     obtain ⟨u88,hinv⟩:=hinv
     obtain ⟨u89,hinv⟩:=hinv
     obtain ⟨u90,hinv⟩:=hinv
     obtain ⟨u91,hinv⟩:=hinv
     obtain ⟨u92,hinv⟩:=hinv
     obtain ⟨u93,hinv⟩:=hinv
     obtain ⟨u94,hinv⟩:=hinv
     obtain ⟨u95,hinv⟩:=hinv
     obtain ⟨u96,hinv⟩:=hinv
     obtain ⟨u97,hinv⟩:=hinv
     obtain ⟨u98,hinv⟩:=hinv
     obtain ⟨u99,hinv⟩:=hinv
     obtain ⟨u100,hinv⟩:=hinv
     obtain ⟨u101,hinv⟩:=hinv
     obtain ⟨u102,hinv⟩:=hinv
     obtain ⟨u103,hinv⟩:=hinv
     obtain ⟨u104,hinv⟩:=hinv
     obtain ⟨u105,hinv⟩:=hinv
     obtain ⟨u106,hinv⟩:=hinv
     obtain ⟨u107,hinv⟩:=hinv
     obtain ⟨u108,hinv⟩:=hinv
     obtain ⟨u109,hinv⟩:=hinv
     obtain ⟨u110,hinv⟩:=hinv
     obtain ⟨u111,hinv⟩:=hinv
     obtain ⟨u112,hinv⟩:=hinv
     obtain ⟨u35,hinv⟩:=hinv
     obtain ⟨hrel,ha⟩:=hinv
     subst ha
     obtain ⟨k,Ds,hk,hu,hd,HPL⟩:=hrel
     subst hu hd
     dsimp only
     by_cases hlt : k < sn
     ·skip
      obtain ⟨b_,o,hz,hA,hbl,hc⟩:=RA.range sat_len (HS.out.below HPL.out.2.below) hlt
      obtain ⟨s,hs⟩ : ∃ s,s = sats[k]:=⟨_,rfl⟩
      have hok : satOK s = true:=by rw [hs]; exact HSAT.out.2 _ (List.getElem_mem _)
      rw [← hs] at hc
      obtain ⟨hob,hsl0,hsl1⟩:=sat_orb hok
      obtain ⟨p,f,lo,hi,no,tu,sl,ho⟩ : ∃ p f lo hi no tu sl,s.orbit = ⟨p,f,lo,hi,no,tu,sl⟩:=⟨_,_,_,_,_,_,_,rfl⟩
      rw [ho] at hob hsl0 hsl1
      dsimp only at hsl0 hsl1
      have KX : Blk (wr.alloc (.cells (satCells s).toArray 53)) wr.heap.size 53 (satCells s).toArray:=Blk.new _ _ _
      have h1:=sat_one s
      have hsx : (satCells s).toArray.size = 21:=rfl
      have hX : ∃ X,(satCells s).toArray = X:=⟨_,rfl⟩
      have hcell : ∀ (W : World) (g : Nat),Blk W g 53 (satCells s).toArray → W.cell? ⟨g,0,none⟩ = some (.int .i64 s.id) ∧ W.cell? ⟨g,2,none⟩ = some (.int .i64 p) ∧ W.cell? ⟨g,3,none⟩ = some (.int .i64 f) ∧ W.cell? ⟨g,4,none⟩ = some (.int .i64 lo) ∧ W.cell? ⟨g,5,none⟩ = some (.int .i64 hi) ∧ W.cell? ⟨g,6,none⟩ = some (.int .i64 no) ∧ W.cell? ⟨g,7,none⟩ = some (.int .i64 tu) ∧ W.cell? ⟨g,8,none⟩ = some (.int .i64 sl):=by
       intro W g K
       have e : s.orbit.period = p ∧ s.orbit.phase = f ∧ s.orbit.low = lo ∧ s.orbit.high = hi ∧ s.orbit.node = no ∧ s.orbit.turn = tu ∧ s.orbit.slack = sl:=by rw [ho]; exact ⟨rfl,rfl,rfl,rfl,rfl,rfl,rfl⟩
       obtain ⟨e0,e1,e2,e3,e4,e5,e6⟩:=e
       refine ⟨K.cell 0,?_,?_,?_,?_,?_,?_,?_⟩
       ·rw [← e0]; exact K.cell 2
       ·rw [← e1]; exact K.cell 3
       ·rw [← e2]; exact K.cell 4
       ·rw [← e3]; exact K.cell 5
       ·rw [← e4]; exact K.cell 6
       ·rw [← e5]; exact K.cell 7
       ·rw [← e6]; exact K.cell 8
      have c8:=(hcell _ _ KX).2.2.2.2.2.2.2
      obtain ⟨X,hX⟩:=hX
      rw [hX] at KX h1 hsx c8 hcell
      have HX:=Lib.hid hX
      have HON:=Lib.hid h1
      have HSX:=Lib.hid hsx
      have HC:=Lib.hid hc
      have HCELL:=Lib.hid hcell
      have HOB:=Lib.hid hob
      have HO:=Lib.hid ho
      have HSS:=Lib.hid hs
      have HKX:=Lib.hid KX
      have p0 : (((wr.alloc (.cells X 53)).alloc (.cells #[.int .i64 sl] 3)).alloc (.cells #[.slice none 0 0] 146)).cell? ⟨gp,0,none⟩ = some (.int .i64 a):=(((HPL.out.2.kp.alloc _).alloc _).alloc _).cell 0
      subst hA
      clear hX h1 hsx hc hcell hob ho hs KX hok
      gi_wp2_with (first | (refine wpListIn_load_st rfl _ _ rfl b_ (o + k * 21) rfl X (satCells s) HX.out _ HC.out Tryz.underlying53 rfl sat_size ?_) | (refine wpListIn_store_new rfl 53 _ _ rfl _ X rfl rfl (by rw [HSX.out]; exact sat_size) (by rw [HSX.out]; rfl) HON.out ?_))
      have hWA : ∃ W4,W4 = ((wr.alloc (.cells X 53)).alloc (.cells #[.int .i64 sl] 3)).alloc (.cells #[.slice none 0 0] 146):=⟨_,rfl⟩
      obtain ⟨W4,hW4⟩:=hWA
      rw [← hW4] at p0 ⊢
      obtain ⟨g9,hg9⟩ : ∃ g,g = wr.heap.size:=⟨_,rfl⟩
      obtain ⟨gl,hgl⟩ : ∃ g,g = wr.heap.size + 1:=⟨_,rfl⟩
      obtain ⟨gt,hgt⟩ : ∃ g,g = wr.heap.size + 1 + 1:=⟨_,rfl⟩
      have hti0 : TI wr g9 gl gt X sl ⟨p,f,lo,hi,no,tu,sl⟩ (a - sl) 0 W4:=by
       refine ⟨?_,?_,?_,⟨_,?_,World.ownsRow_nil _ _ _ _,fun _ => rfl⟩⟩
       ·rw [hW4]; exact bl_alloc (bl_alloc (bl_alloc (Below.refl _ _) _) _) _
       ·rw [hW4,hg9]; exact (HKX.out.alloc _).alloc _
       ·rw [hW4]; exact (Blk.new_at _ _ _ (by simp [hgl])).alloc _
       ·rw [hW4]; exact Blk.new_at _ _ _ (by simp [hgt])
      rw [← hgt,← hgl,← hg9]
      have HTI0:=Lib.hid hti0
      have HG9:=Lib.hid hg9
      have HGL:=Lib.hid hgl
      have HGT:=Lib.hid hgt
      clear hti0 hW4 hg9 hgl hgt p0 c8 HKX HC
      obtain ⟨wo,hwo⟩ : ∃ wo : World,wo = wr:=⟨_,rfl⟩
      rw [← hwo] at HPL HTI0 HG9 HGL HGT
      clear hwo
      gi_loopw [12] (fun mv wi => ∃ (j : Nat) (m : Int),m ≤ b + sl ∧ a - sl ≤ m ∧ mv = .int .i64 m ∧ Hid (m = a - sl + j) ∧ Hid (TI wo g9 gl gt X sl ⟨p,f,lo,hi,no,tu,sl⟩ (a - sl) j wi)) (fun mv _ => (b + sl - intOf mv).toNat)
      case atStart => exact ⟨0,a - sl,by omega,by omega,rfl,Lib.hid (by simp),HTI0⟩
      case round =>
       clear HTI0
       obtain ⟨j,m,hmb,hma,rfl,HM,HTI⟩:=hrel
       have p1 : wr.cell? ⟨gp,1,none⟩ = some (.int .i64 b):=(HPL.out.2.kp.ext HTI.out.ext).cell 1
       have l0 : wr.cell? ⟨gl,0,none⟩ = some (.int .i64 sl):=HTI.out.kl.cell 0
       by_cases hml : m < b + sl
       ·obtain ⟨c0,c2,c3,c4,c5,c6,c7,c8⟩:=HCELL.out _ _ HTI.out.kx
        have hcv:=cell_view HOB.out (m:=m) (by omega) (by omega)
        have HCV:=Lib.hid hcv
        clear c0 hcv
        rcases (show m ≤ 0 ∨ (0 < m ∧ m < 1000000) ∨ 1000000 ≤ m by omega) with hm1 | hm1 | hm1
        ·skip
         gi_wp2_with fail
         refine ⟨trivial,(callsIn_wide.2 (At_any p f lo hi no tu sl _ _ _)).mono ?_⟩
         rintro e W5 ⟨he,hx5⟩
         have hcv:=HCV.out
         rw [show min 1000000 (max 0 m) = 0 by omega] at hcv
         simp only [Int.zero_sub] at hcv
         rw [hcv] at he
         subst he
         obtain ⟨cx,cy,hcc⟩ : ∃ cx cy,cellAt ⟨p,f,lo,hi,no,tu,sl⟩ m = ⟨cx,cy⟩:=⟨_,_,rfl⟩
         rw [hcc]
         have HCC:=Lib.hid hcc
         clear hcv hcc c2 c3 c4 c5 c6 c7 c8 p1 l0
         simp only [atV]
         obtain ⟨v,k1,k2,k3⟩:=HTI.out.row
         obtain ⟨A',c',hv,_,_⟩:=own_slice k2
         subst hv
         have hx6 : Ext wr ((W5.alloc (.cells #[.int .i64 cx,.int .i64 cy] 69)).alloc (.cells #[.int .i64 cx,.int .i64 cy] 69)):=Ext.trans hx5 (bl_alloc (bl_alloc (Below.refl _ _) _) _)
         have KN : Blk ((W5.alloc (.cells #[.int .i64 cx,.int .i64 cy] 69)).alloc (.cells #[.int .i64 cx,.int .i64 cy] 69)) (W5.heap.size + 1) 69 #[.int .i64 cx,.int .i64 cy]:=Blk.new_at _ _ _ (by simp)
         obtain ⟨i0,hi0,hz0,hz1,hz2⟩:=info_parts info_cel
         have hsz6:=hx6.size
         have hgt6 : gt + 1 ≤ wr.heap.size:=by have:=HTI.out.row.choose_spec.1.lt; omega
         have hjb : j ≤ 5000:=by have:=HM.out; omega
         obtain ⟨v2,W7,hr,hrow2,hg2,-⟩:=run_append_prec (P:=Tryz.prog) ((W5.alloc (.cells #[.int .i64 cx,.int .i64 cy] 69)).alloc (.cells #[.int .i64 cx,.int .i64 cy] 69)) (gt + 1) 146 146 69 i0 _ 2 16 Tryz.underlying146 hi0 hz0 hz1 hz2 rfl (by omega) _ j _ (own_ext k2 hx6) k3 ⟨W5.heap.size + 1,0,none⟩ 1 (celCells ⟨cx,cy⟩) rfl
          (by intro i u hu; rw [Addr.add_lit,Nat.zero_add]; rw [KN.cell]; simpa [celCells] using hu) (by simp [celCells,Value.oneCell']) (by unfold maxLen; omega) (by omega) (by omega)
         obtain ⟨A2,c2,hv,_,_⟩:=own_slice hrow2
         subst hv
         have hne : ∀ q,(Value.slice A' j c').ownBlock = some q → gt + 1 ≤ q:=fun q hq => (World.ownsRow.lt k2 q hq).1
         have k4:=(k1.ext hx6).grown hg2 (fun e => by have:=hne gt e.symm; omega)
         have k5:=(HTI.out.kx.ext hx6).grown hg2 (fun e => by have:=hne g9 e.symm; have h1:=HG9.out; have h2:=HGT.out; omega)
         have k6:=(HTI.out.kl.ext hx6).grown hg2 (fun e => by have:=hne gl e.symm; have h1:=HGL.out; have h2:=HGT.out; omega)
         have hti : TI wo g9 gl gt X sl ⟨p,f,lo,hi,no,tu,sl⟩ (a - sl) (j + 1) (W7.setCell ⟨gt,0,none⟩ (.slice A2 (j + 1) c2)):=by
          have h1:=HG9.out
          have h2:=HGL.out
          have h3:=HGT.out
          refine ⟨?_,k5.far (by show g9 ≠ gt; omega) _,k6.far (by show gl ≠ gt; omega) _,⟨_,k4.set_ 0 _,?_,fun h => by omega⟩⟩
          ·have hb7 : Below wo.heap.size wo W7:=(HTI.out.ext.trans hx6).grown hg2 (Ext.trans HTI.out.ext hx6).size (fun q e => by have:=hne q e; omega)
           exact hb7.setCell (p:=⟨gt,0,none⟩) (by show wo.heap.size ≤ gt; omega) _
          ·have hq:=own_set hrow2 (p:=⟨gt,0,none⟩) (fun e => by have:=(World.ownsRow.lt hrow2 gt e).1; omega) (.slice A2 (j + 1) c2)
           rw [trackP_succ,List.flatMap_append,show cellAt ⟨p,f,lo,hi,no,tu,sl⟩ (a - sl + j) = ⟨cx,cy⟩ by rw [← HM.out]; exact HCC.out]
           simpa using hq
         have t0 : (W5.alloc (.cells #[.int .i64 cx,.int .i64 cy] 69)).cell? ⟨gt,0,none⟩ = some (.slice A' j c'):=((k1.ext hx5).alloc _).cell 0
         have t1 : W7.frozen? ⟨gt,0,none⟩ = false:=k4.frozen 0
         have t2 : W7.cell? ⟨gt,0,none⟩ = some (.slice A' j c'):=k4.cell 0
         have HR:=Lib.hid hr
         have HTN:=Lib.hid hti
         have HMN:=Lib.hid (show m + 1 = a - sl + ((j + 1 : Nat) : Int) by have:=HM.out; omega)
         clear hr hti k1 k2 k3 k4 k5 k6 hx5 hx6 KN hrow2 hg2 hne hsz6 hgt6 HTI HM
         gi_wp2_with (gi_at_builtin; refine wpListIn_append_run rfl _ _ _ rfl rfl rfl HR.out ?_)
         go_roundw
         case rel => exact ⟨j + 1,m + 1,by omega,by omega,rfl,HMN,HTN⟩
         case measure => simp [intOf]; omega
        ·skip
         gi_wp2_with fail
         refine ⟨trivial,(callsIn_wide.2 (At_any p f lo hi no tu sl _ _ _)).mono ?_⟩
         rintro e W5 ⟨he,hx5⟩
         have hcv:=HCV.out
         rw [show min 1000000 (max 0 m) = m by omega] at hcv
         simp only [Int.sub_self] at hcv
         rw [hcv] at he
         subst he
         obtain ⟨cx,cy,hcc⟩ : ∃ cx cy,cellAt ⟨p,f,lo,hi,no,tu,sl⟩ m = ⟨cx,cy⟩:=⟨_,_,rfl⟩
         rw [hcc]
         have HCC:=Lib.hid hcc
         clear hcv hcc c2 c3 c4 c5 c6 c7 c8 p1 l0
         simp only [atV]
         obtain ⟨v,k1,k2,k3⟩:=HTI.out.row
         obtain ⟨A',c',hv,_,_⟩:=own_slice k2
         subst hv
         have hx6 : Ext wr ((W5.alloc (.cells #[.int .i64 cx,.int .i64 cy] 69)).alloc (.cells #[.int .i64 cx,.int .i64 cy] 69)):=Ext.trans hx5 (bl_alloc (bl_alloc (Below.refl _ _) _) _)
         have KN : Blk ((W5.alloc (.cells #[.int .i64 cx,.int .i64 cy] 69)).alloc (.cells #[.int .i64 cx,.int .i64 cy] 69)) (W5.heap.size + 1) 69 #[.int .i64 cx,.int .i64 cy]:=Blk.new_at _ _ _ (by simp)
         obtain ⟨i0,hi0,hz0,hz1,hz2⟩:=info_parts info_cel
         have hsz6:=hx6.size
         have hgt6 : gt + 1 ≤ wr.heap.size:=by have:=HTI.out.row.choose_spec.1.lt; omega
         have hjb : j ≤ 5000:=by have:=HM.out; omega
         obtain ⟨v2,W7,hr,hrow2,hg2,-⟩:=run_append_prec (P:=Tryz.prog) ((W5.alloc (.cells #[.int .i64 cx,.int .i64 cy] 69)).alloc (.cells #[.int .i64 cx,.int .i64 cy] 69)) (gt + 1) 146 146 69 i0 _ 2 16 Tryz.underlying146 hi0 hz0 hz1 hz2 rfl (by omega) _ j _ (own_ext k2 hx6) k3 ⟨W5.heap.size + 1,0,none⟩ 1 (celCells ⟨cx,cy⟩) rfl
          (by intro i u hu; rw [Addr.add_lit,Nat.zero_add]; rw [KN.cell]; simpa [celCells] using hu) (by simp [celCells,Value.oneCell']) (by unfold maxLen; omega) (by omega) (by omega)
         obtain ⟨A2,c2,hv,_,_⟩:=own_slice hrow2
         subst hv
         have hne : ∀ q,(Value.slice A' j c').ownBlock = some q → gt + 1 ≤ q:=fun q hq => (World.ownsRow.lt k2 q hq).1
         have k4:=(k1.ext hx6).grown hg2 (fun e => by have:=hne gt e.symm; omega)
         have k5:=(HTI.out.kx.ext hx6).grown hg2 (fun e => by have:=hne g9 e.symm; have h1:=HG9.out; have h2:=HGT.out; omega)
         have k6:=(HTI.out.kl.ext hx6).grown hg2 (fun e => by have:=hne gl e.symm; have h1:=HGL.out; have h2:=HGT.out; omega)
         have hti : TI wo g9 gl gt X sl ⟨p,f,lo,hi,no,tu,sl⟩ (a - sl) (j + 1) (W7.setCell ⟨gt,0,none⟩ (.slice A2 (j + 1) c2)):=by
          have h1:=HG9.out
          have h2:=HGL.out
          have h3:=HGT.out
          refine ⟨?_,k5.far (by show g9 ≠ gt; omega) _,k6.far (by show gl ≠ gt; omega) _,⟨_,k4.set_ 0 _,?_,fun h => by omega⟩⟩
          ·have hb7 : Below wo.heap.size wo W7:=(HTI.out.ext.trans hx6).grown hg2 (Ext.trans HTI.out.ext hx6).size (fun q e => by have:=hne q e; omega)
           exact hb7.setCell (p:=⟨gt,0,none⟩) (by show wo.heap.size ≤ gt; omega) _
          ·have hq:=own_set hrow2 (p:=⟨gt,0,none⟩) (fun e => by have:=(World.ownsRow.lt hrow2 gt e).1; omega) (.slice A2 (j + 1) c2)
           rw [trackP_succ,List.flatMap_append,show cellAt ⟨p,f,lo,hi,no,tu,sl⟩ (a - sl + j) = ⟨cx,cy⟩ by rw [← HM.out]; exact HCC.out]
           simpa using hq
         have t0 : (W5.alloc (.cells #[.int .i64 cx,.int .i64 cy] 69)).cell? ⟨gt,0,none⟩ = some (.slice A' j c'):=((k1.ext hx5).alloc _).cell 0
         have t1 : W7.frozen? ⟨gt,0,none⟩ = false:=k4.frozen 0
         have t2 : W7.cell? ⟨gt,0,none⟩ = some (.slice A' j c'):=k4.cell 0
         have HR:=Lib.hid hr
         have HTN:=Lib.hid hti
         have HMN:=Lib.hid (show m + 1 = a - sl + ((j + 1 : Nat) : Int) by have:=HM.out; omega)
         clear hr hti k1 k2 k3 k4 k5 k6 hx5 hx6 KN hrow2 hg2 hne hsz6 hgt6 HTI HM
         gi_wp2_with (gi_at_builtin; refine wpListIn_append_run rfl _ _ _ rfl rfl rfl HR.out ?_)
         go_roundw
         case rel => exact ⟨j + 1,m + 1,by omega,by omega,rfl,HMN,HTN⟩
         case measure => simp [intOf]; omega
        ·skip
         gi_wp2_with fail
         refine ⟨trivial,(callsIn_wide.2 (At_any p f lo hi no tu sl _ _ _)).mono ?_⟩
         rintro e W5 ⟨he,hx5⟩
         have hcv:=HCV.out
         rw [show min 1000000 (max 0 m) = 1000000 by omega] at hcv
         rw [hcv] at he
         subst he
         obtain ⟨cx,cy,hcc⟩ : ∃ cx cy,cellAt ⟨p,f,lo,hi,no,tu,sl⟩ m = ⟨cx,cy⟩:=⟨_,_,rfl⟩
         rw [hcc]
         have HCC:=Lib.hid hcc
         clear hcv hcc c2 c3 c4 c5 c6 c7 c8 p1 l0
         simp only [atV]
         obtain ⟨v,k1,k2,k3⟩:=HTI.out.row
         obtain ⟨A',c',hv,_,_⟩:=own_slice k2
         subst hv
         have hx6 : Ext wr ((W5.alloc (.cells #[.int .i64 cx,.int .i64 cy] 69)).alloc (.cells #[.int .i64 cx,.int .i64 cy] 69)):=Ext.trans hx5 (bl_alloc (bl_alloc (Below.refl _ _) _) _)
         have KN : Blk ((W5.alloc (.cells #[.int .i64 cx,.int .i64 cy] 69)).alloc (.cells #[.int .i64 cx,.int .i64 cy] 69)) (W5.heap.size + 1) 69 #[.int .i64 cx,.int .i64 cy]:=Blk.new_at _ _ _ (by simp)
         obtain ⟨i0,hi0,hz0,hz1,hz2⟩:=info_parts info_cel
         have hsz6:=hx6.size
         have hgt6 : gt + 1 ≤ wr.heap.size:=by have:=HTI.out.row.choose_spec.1.lt; omega
         have hjb : j ≤ 5000:=by have:=HM.out; omega
         obtain ⟨v2,W7,hr,hrow2,hg2,-⟩:=run_append_prec (P:=Tryz.prog) ((W5.alloc (.cells #[.int .i64 cx,.int .i64 cy] 69)).alloc (.cells #[.int .i64 cx,.int .i64 cy] 69)) (gt + 1) 146 146 69 i0 _ 2 16 Tryz.underlying146 hi0 hz0 hz1 hz2 rfl (by omega) _ j _ (own_ext k2 hx6) k3 ⟨W5.heap.size + 1,0,none⟩ 1 (celCells ⟨cx,cy⟩) rfl
          (by intro i u hu; rw [Addr.add_lit,Nat.zero_add]; rw [KN.cell]; simpa [celCells] using hu) (by simp [celCells,Value.oneCell']) (by unfold maxLen; omega) (by omega) (by omega)
         obtain ⟨A2,c2,hv,_,_⟩:=own_slice hrow2
         subst hv
         have hne : ∀ q,(Value.slice A' j c').ownBlock = some q → gt + 1 ≤ q:=fun q hq => (World.ownsRow.lt k2 q hq).1
         have k4:=(k1.ext hx6).grown hg2 (fun e => by have:=hne gt e.symm; omega)
         have k5:=(HTI.out.kx.ext hx6).grown hg2 (fun e => by have:=hne g9 e.symm; have h1:=HG9.out; have h2:=HGT.out; omega)
         have k6:=(HTI.out.kl.ext hx6).grown hg2 (fun e => by have:=hne gl e.symm; have h1:=HGL.out; have h2:=HGT.out; omega)
         have hti : TI wo g9 gl gt X sl ⟨p,f,lo,hi,no,tu,sl⟩ (a - sl) (j + 1) (W7.setCell ⟨gt,0,none⟩ (.slice A2 (j + 1) c2)):=by
          have h1:=HG9.out
          have h2:=HGL.out
          have h3:=HGT.out
          refine ⟨?_,k5.far (by show g9 ≠ gt; omega) _,k6.far (by show gl ≠ gt; omega) _,⟨_,k4.set_ 0 _,?_,fun h => by omega⟩⟩
          ·have hb7 : Below wo.heap.size wo W7:=(HTI.out.ext.trans hx6).grown hg2 (Ext.trans HTI.out.ext hx6).size (fun q e => by have:=hne q e; omega)
           exact hb7.setCell (p:=⟨gt,0,none⟩) (by show wo.heap.size ≤ gt; omega) _
          ·have hq:=own_set hrow2 (p:=⟨gt,0,none⟩) (fun e => by have:=(World.ownsRow.lt hrow2 gt e).1; omega) (.slice A2 (j + 1) c2)
           rw [trackP_succ,List.flatMap_append,show cellAt ⟨p,f,lo,hi,no,tu,sl⟩ (a - sl + j) = ⟨cx,cy⟩ by rw [← HM.out]; exact HCC.out]
           simpa using hq
         have t0 : (W5.alloc (.cells #[.int .i64 cx,.int .i64 cy] 69)).cell? ⟨gt,0,none⟩ = some (.slice A' j c'):=((k1.ext hx5).alloc _).cell 0
         have t1 : W7.frozen? ⟨gt,0,none⟩ = false:=k4.frozen 0
         have t2 : W7.cell? ⟨gt,0,none⟩ = some (.slice A' j c'):=k4.cell 0
         have HR:=Lib.hid hr
         have HTN:=Lib.hid hti
         have HMN:=Lib.hid (show m + 1 = a - sl + ((j + 1 : Nat) : Int) by have:=HM.out; omega)
         clear hr hti k1 k2 k3 k4 k5 k6 hx5 hx6 KN hrow2 hg2 hne hsz6 hgt6 HTI HM
         gi_wp2_with (gi_at_builtin; refine wpListIn_append_run rfl _ _ _ rfl rfl rfl HR.out ?_)
         go_roundw
         case rel => exact ⟨j + 1,m + 1,by omega,by omega,rfl,HMN,HTN⟩
         case measure => simp [intOf]; omega
       ·have hmm : m = b + sl:=by omega
        have hj1 : 0 < j:=by have:=HM.out; omega
        obtain ⟨v,k1,k2,k3⟩:=HTI.out.row
        obtain ⟨gr,cr,hv,hgr1,hgr2⟩:=World.ownsRow.form k2 hj1
        subst hv
        have htt : TT g9 gl gt gr j cr X sl ⟨p,f,lo,hi,no,tu,sl⟩ (a - sl) wr:=⟨HTI.out.kx,HTI.out.kl,k1,⟨by simp [trackP],k2⟩⟩
        have hps : PS sats stns w gp gu a b k s 0 Ds wr:=by
         have h:=HPL.out
         refine ⟨by simpa [PS] using h.1,?_⟩
         have h2:=h.2.ext HTI.out.ext
         simpa using h2
        have HTT:=Lib.hid htt
        have HPS:=Lib.hid hps
        have HJ:=Lib.hid (show (j : Int) = b - a + 2 * sl by have:=HM.out; omega)
        have HGR:=Lib.hid (show gt < gr by omega)
        clear k1 k2 k3 hgr1 hgr2 htt hps HTI HM HPL
        gi_wp2_with fail
        clear p1 l0
        have hlen0:=HPS.out.1
        refine wpIn_loop (fun a' w' => ∃ (ds : List Deferred) (u7 u17 u18 u19 u76 u77 u78 u79 u80 u81 u82 u83 u84 u85 u86 u87 u88 u89 u90 u91 u92 u93 u94 u95 u96 u97 u98 u99 u100 u101 u102 u103 u104 u105 u106 u107 u108 u109 u110 u111 u75 : Value),(∃ (i : Nat) (Ds : List Nat),i ≤ tn ∧ u75 = .int .i64 i ∧ ds = Ds.map mark ∧ Hid (PS sats stns w gp gu a b k s i Ds w') ∧ Hid (TT g9 gl gt gr j cr X sl ⟨p,f,lo,hi,no,tu,sl⟩ (a - sl) w')) ∧ a' = { tmps:=#[.slice (some ⟨b_,o,none⟩) sn sc,.slice TA tn tc,.agg #[.int .i64 a,.int .i64 b],undef,undef,.pointer (some ⟨gp,0,none⟩),.pointer (some ⟨gu,0,none⟩),u7,undef,.pointer (some ⟨g9,0,none⟩),.pointer (some ⟨gl,0,none⟩),.pointer (some ⟨gt,0,none⟩),.int .i64 (b + sl),u13,u14,u15,u16,u17,u18,u19,.agg #[.int .i64 a,.int .i64 b],.bool true,.bool false,.bool false,.slice (some ⟨b_,o,none⟩) sn sc,.bool true,.bool false,.bool false,.bool false,.slice TA tn tc,.bool true,.bool false,.bool false,.slice (some ⟨b_,o,none⟩) sn sc,.int .i64 (sn : Int),.int .i64 (k : Int),.bool true,.pointer (some ⟨b_,o + k * 21,none⟩),.agg X,.pointer (some ⟨g9,2,none⟩),.pointer (some ⟨g9,8,none⟩),.int .i64 sl,.pointer (some ⟨gp,0,none⟩),.int .i64 a,.int .i64 sl,.int .i64 (a - sl),.int .i64 (b + sl),.pointer (some ⟨gp,1,none⟩),.int .i64 b,.int .i64 sl,.int .i64 (b + sl),.bool false,u52,u53,u54,u55,u56,u57,u58,u59,u60,u61,u62,u63,u64,u65,u66,u67,u68,u69,u70,u71,u72,.slice TA tn tc,.int .i64 (tn : Int),u75,u76,u77,u78,u79,u80,u81,u82,u83,u84,u85,u86,u87,u88,u89,u90,u91,u92,u93,u94,u95,u96,u97,u98,u99,u100,u101,u102,u103,u104,u105,u106,u107,u108,u109,u110,u111,u112,undef,undef,undef],defers:=ds }) (fun a' _ => tn - (intOf (a'.tmps.getD 75 undef)).toNat) ?_ ?_
        ·exact ⟨_,_,_,_,_,_,_,_,_,_,_,_,_,_,_,_,_,_,_,_,_,_,_,_,_,_,_,_,_,_,_,_,_,_,_,_,_,_,_,_,_,_,⟨0,Ds,Nat.zero_le _,rfl,rfl,HPS,HTT⟩,rfl⟩
        ·clear HPS HTT hlen0
         intro a_ wr hinv
         obtain ⟨ds,hinv⟩:=hinv
         obtain ⟨u7,hinv⟩:=hinv
         obtain ⟨u17,hinv⟩:=hinv
         obtain ⟨u18,hinv⟩:=hinv
         obtain ⟨u19,hinv⟩:=hinv
         obtain ⟨u76,hinv⟩:=hinv
         obtain ⟨u77,hinv⟩:=hinv
         obtain ⟨u78,hinv⟩:=hinv
         obtain ⟨u79,hinv⟩:=hinv
         obtain ⟨u80,hinv⟩:=hinv
         obtain ⟨u81,hinv⟩:=hinv
         obtain ⟨u82,hinv⟩:=hinv
         obtain ⟨u83,hinv⟩:=hinv
         obtain ⟨u84,hinv⟩:=hinv
         obtain ⟨u85,hinv⟩:=hinv
         obtain ⟨u86,hinv⟩:=hinv
         obtain ⟨u87,hinv⟩:=hinv
         obtain ⟨u88,hinv⟩:=hinv
         obtain ⟨u89,hinv⟩:=hinv
         obtain ⟨u90,hinv⟩:=hinv
         obtain ⟨u91,hinv⟩:=hinv
         obtain ⟨u92,hinv⟩:=hinv
         obtain ⟨u93,hinv⟩:=hinv
         obtain ⟨u94,hinv⟩:=hinv
         obtain ⟨u95,hinv⟩:=hinv
         obtain ⟨u96,hinv⟩:=hinv
         obtain ⟨u97,hinv⟩:=hinv
         obtain ⟨u98,hinv⟩:=hinv
         obtain ⟨u99,hinv⟩:=hinv
         obtain ⟨u100,hinv⟩:=hinv
         obtain ⟨u101,hinv⟩:=hinv
         obtain ⟨u102,hinv⟩:=hinv
         obtain ⟨u103,hinv⟩:=hinv
         obtain ⟨u104,hinv⟩:=hinv
         obtain ⟨u105,hinv⟩:=hinv
         obtain ⟨u106,hinv⟩:=hinv
         obtain ⟨u107,hinv⟩:=hinv
         obtain ⟨u108,hinv⟩:=hinv
         obtain ⟨u109,hinv⟩:=hinv
         obtain ⟨u110,hinv⟩:=hinv
         obtain ⟨u111,hinv⟩:=hinv
         obtain ⟨u75,hinv⟩:=hinv
         obtain ⟨hrel,ha⟩:=hinv
         subst ha
         obtain ⟨i,Ds,hi_,hu,hd,HPS,HTT⟩:=hrel
         subst hu hd
         dsimp only
         by_cases hit : i < tn
         ·skip
          obtain ⟨b2,o2,hz2,hA2,hbl2,hc2⟩:=RA.range stn_len (HT.out.below HPS.out.2.below) hit
          obtain ⟨st,hst⟩ : ∃ st,st = stns[i]:=⟨_,rfl⟩
          have hstok : stnOK st = true:=by rw [hst]; exact HSTN.out.2 _ (List.getElem_mem _)
          rw [← hst] at hc2
          have HST:=Lib.hid hst
          obtain ⟨id,⟨x,y⟩,re,an,sk⟩:=st
          have v0 : wr.cell? ⟨b2,o2 + i * 6,none⟩ = some (.int .i64 id):=hc2 0 _ rfl
          have v1 : wr.cell? ⟨b2,o2 + i * 6 + 1,none⟩ = some (.int .i64 x):=hc2 1 _ rfl
          have v2 : wr.cell? ⟨b2,o2 + i * 6 + 2,none⟩ = some (.int .i64 y):=hc2 2 _ rfl
          have v3 : wr.cell? ⟨b2,o2 + i * 6 + 3,none⟩ = some (.int .i64 re):=hc2 3 _ rfl
          have v4 : wr.cell? ⟨b2,o2 + i * 6 + 4,none⟩ = some (.int .i64 an):=hc2 4 _ rfl
          have v5 : wr.cell? ⟨b2,o2 + i * 6 + 5,none⟩ = some (.int .i64 sk):=hc2 5 _ rfl
          have p0 : (wr.alloc (.cells #[.int .i64 id,.int .i64 x,.int .i64 y,.int .i64 re,.int .i64 an,.int .i64 sk] 71)).cell? ⟨gp,0,none⟩ = some (.int .i64 a):=(HPS.out.2.kp.alloc _).cell 0
          have p1 : (wr.alloc (.cells #[.int .i64 id,.int .i64 x,.int .i64 y,.int .i64 re,.int .i64 an,.int .i64 sk] 71)).cell? ⟨gp,1,none⟩ = some (.int .i64 b):=(HPS.out.2.kp.alloc _).cell 1
          have l0 : (wr.alloc (.cells #[.int .i64 id,.int .i64 x,.int .i64 y,.int .i64 re,.int .i64 an,.int .i64 sk] 71)).cell? ⟨gl,0,none⟩ = some (.int .i64 sl):=(HTT.out.kl.alloc _).cell 0
          clear hst hstok hc2
          subst hA2
          gi_wp2_with fail
          obtain ⟨W4,hW4⟩ : ∃ W4,W4 = wr.alloc (.cells #[.int .i64 id,.int .i64 x,.int .i64 y,.int .i64 re,.int .i64 an,.int .i64 sk] 71):=⟨_,rfl⟩
          have KS : Blk W4 wr.heap.size 71 #[.int .i64 id,.int .i64 x,.int .i64 y,.int .i64 re,.int .i64 an,.int .i64 sk]:=by rw [hW4]; exact Blk.new _ _ _
          have hx4 : Ext wr W4:=by rw [hW4]; exact bl_alloc (Below.refl _ _) _
          obtain ⟨gs,hgs⟩ : ∃ g,g = wr.heap.size:=⟨_,rfl⟩
          rw [← hW4,← hgs]
          rw [← hgs] at KS
          have HGS:=Lib.hid hgs
          clear hW4 hgs v0 v1 v2 v3 v4 v5 p0 p1 l0
          refine ⟨trivial,(callsIn_wide.2 (spells_any (a - sl) (b + sl) 89 _ _)).mono ?_⟩
          rintro e W5 ⟨rfl,hW5⟩
          have hx5 : Ext W4 W5:=by subst hW5; exact bl_alloc (bl_alloc (bl_alloc (Below.refl _ _) _) _) _
          have kf : Blk W5 W4.heap.size 3 #[.int .i64 (a - sl)]:=by subst hW5; exact ((Blk.new _ _ _).alloc _).alloc _
          have kt : Blk W5 (W4.heap.size + 1) 3 #[.int .i64 (b + sl)]:=by subst hW5; exact (Blk.new_at _ _ _ (by simp)).alloc _
          have ki : Blk W5 (W4.heap.size + 1 + 1) 147 #[.func (.func 89) #[] #[.pointer (some ⟨gt,0,none⟩),.pointer (some ⟨gp,0,none⟩),.pointer (some ⟨gl,0,none⟩),.pointer (some ⟨gs,0,none⟩)]]:=by subst hW5; exact Blk.new_at _ _ _ (by simp)
          have hx:=hx4.trans hx5
          have KS:=KS.ext hx5
          have hpi:=HPS.out.2.ext hx
          have htt:=HTT.out.ext hx
          clear hW5 hx4 hx5
          gi_wp2_with fail
          obtain ⟨v0,r1,r2,r3⟩:=HPS.out.2.row
          have hv0 : ∀ q,v0.ownBlock = some q → q < wr.heap.size:=fun q hq => (World.ownsRow.lt r2 q hq).2
          obtain ⟨crx,hkr⟩:=htt.kr.blk
          have r1':=r1.ext hx
          have r2':=own_ext r2 hx
          have n1 : ¬ (gt = gu ∨ v0.ownBlock = some gt):=by rintro (h | h); exact Blk.ne_ htt.kt r1' (by decide) h; exact own_blk_ne r2' htt.kt (by decide) h
          have n2 : ¬ (gr = gu ∨ v0.ownBlock = some gr):=by rintro (h | h); exact Blk.ne_ hkr r1' (by decide) h; exact own_blk_ne r2' hkr (by decide) h
          have n3 : ¬ (gp = gu ∨ v0.ownBlock = some gp):=by rintro (h | h); exact Blk.ne_ hpi.kp r1' (by decide) h; exact own_blk_ne r2' hpi.kp (by decide) h
          have n4 : ¬ (gl = gu ∨ v0.ownBlock = some gl):=by rintro (h | h); exact Blk.ne_ htt.kl r1' (by decide) h; exact own_blk_ne r2' htt.kl (by decide) h
          have n5 : ¬ (gs = gu ∨ v0.ownBlock = some gs):=by rintro (h | h); exact Blk.ne_ KS r1' (by decide) h; exact own_blk_ne r2' KS (by decide) h
          have n6 : ¬ (W4.heap.size = gu ∨ v0.ownBlock = some W4.heap.size):=by rintro (h | h); exact Blk.ne_ kf r1' (by decide) h; exact own_blk_ne r2' kf (by decide) h
          have n7 : ¬ (W4.heap.size + 1 = gu ∨ v0.ownBlock = some (W4.heap.size + 1)):=by rintro (h | h); exact Blk.ne_ kt r1' (by decide) h; exact own_blk_ne r2' kt (by decide) h
          have n8 : ¬ (W4.heap.size + 1 + 1 = gu ∨ v0.ownBlock = some (W4.heap.size + 1 + 1)):=by rintro (h | h); exact Blk.ne_ ki r1' (by decide) h; exact own_blk_ne r2' ki (by decide) h
          have hjj : j ≤ 5000:=by have:=HJ.out; omega
          have hsz5:=hx.size
          have N1:=Lib.hid n1
          have N2:=Lib.hid n2
          have N3:=Lib.hid n3
          have N4:=Lib.hid n4
          have N5:=Lib.hid n5
          have HV0:=Lib.hid hv0
          have hri : RI w gp gu g9 gl gt gr gs j cr X #[.int .i64 id,.int .i64 x,.int .i64 y,.int .i64 re,.int .i64 an,.int .i64 sk] sl a b ⟨p,f,lo,hi,no,tu,sl⟩ (outK sats stns a b k ++ (stns.take i).flatMap (pairP s ⟨a,b⟩)) (passOne s ⟨id,⟨x,y⟩,re,an,sk⟩ ⟨a,b⟩) Ds W5.heap.size v0 [] W5 :=
           ⟨hpi.kp,KS,⟨v0,r1',by simpa using r2',by simpa using r3,fun q hq => .inl hq⟩,hpi.below,hpi.marks,fun D hD => hpi.marks.lt D hD,htt,Nat.le_refl _⟩
          have hB5_ : w.heap.size ≤ W5.heap.size:=hpi.below.size
          have hbe : (b + sl - (a - sl)).toNat = j:=by have:=HJ.out; omega
          refine wp_range_spells (fun q => q = gu ∨ v0.ownBlock = some q) 89 #[.pointer (some ⟨gt,0,none⟩),.pointer (some ⟨gp,0,none⟩),.pointer (some ⟨gl,0,none⟩),.pointer (some ⟨gs,0,none⟩)] (plainP ⟨p,f,lo,hi,no,tu,sl⟩ ⟨id,⟨x,y⟩,re,an,sk⟩) (a - sl) (b + sl) _ _ _ 10 (by omega)
           (fun q h => by rcases h with h | h; rw [h]; exact r1'.lt; have:=hv0 q h; omega) (enters_of Tryz.func89 (by kernel_rfl) rfl)
           kf kt ki n6 n7 n8 (by omega) (by omega) (by omega) ?hp rfl (q:=19) (RI w gp gu g9 gl gt gr gs j cr X #[.int .i64 id,.int .i64 x,.int .i64 y,.int .i64 re,.int .i64 an,.int .i64 sk] sl a b ⟨p,f,lo,hi,no,tu,sl⟩ (outK sats stns a b k ++ (stns.take i).flatMap (pairP s ⟨a,b⟩)) (passOne s ⟨id,⟨x,y⟩,re,an,sk⟩ ⟨a,b⟩) Ds W5.heap.size v0) (ri_own hpi.below.size) (fun pre W h => h.size) hri ?hassign ?hbody ?hdone
          case hp =>
           intro t W ht1 ht2 hk
           exact plain_any ⟨p,f,lo,hi,no,tu,sl⟩ id x y re an sk a b sl t gt gr gp gl gs j cr (gt + 1) W ⟨hsl0,hsl1⟩ ⟨ht1,by have:=HJ.out; omega⟩ (by omega) (hk.blk_ htt.kt n1 (.inl htt.kt.lt)) (htt.kr.same (hk.blk _ _ _ hkr n2 (.inl hkr.lt))) (hk.blk_ hpi.kp n3 (.inl hpi.kp.lt)) (hk.blk_ htt.kl n4 (.inl htt.kl.lt)) (hk.blk_ KS n5 (.inl KS.lt))
          case hassign =>
           intro l x W K hK
           simp only [List.setIfInBounds_toArray,List.set_cons_zero,List.set_cons_succ] at hK ⊢
           gi_wp2
           exact hK
          case hbody =>
           clear hri hpi htt r1 r1' r2 r2' r3 kf kt ki n1 n2 n3 n4 n5 n6 n7 n8 hv0 KS hkr hx
           intro l pre xs Bx W hI hBx KB hlen
           obtain ⟨⟨xf,xt⟩,hbd⟩:=xs
           simp only [List.setIfInBounds_toArray,List.set_cons_zero,List.set_cons_succ]
           obtain ⟨hkp,hks,⟨v,r1,r2,r3,r4⟩,hbl,hmk,hml,htt,hsz⟩:=hI
           obtain ⟨A0,c0,hv,_,_⟩:=own_slice r2
           subst hv
           obtain ⟨outp,hop⟩ : ∃ o,o = (outK sats stns a b k ++ (stns.take i).flatMap (pairP s ⟨a,b⟩)) ++ (pre.map (·.1)).map (passOne s ⟨id,⟨x,y⟩,re,an,sk⟩ ⟨a,b⟩):=⟨_,rfl⟩
           have hn0b : outp.length ≤ 6000:=by
            have h1:=HPS.out.1
            have h2:=spells_len (plainP ⟨p,f,lo,hi,no,tu,sl⟩ ⟨id,⟨x,y⟩,re,an,sk⟩) (b + sl - (a - sl)).toNat (a - sl)
            have h3 : outp.length = (outK sats stns a b k ++ (stns.take i).flatMap (pairP s ⟨a,b⟩)).length + pre.length:=by rw [hop,List.length_append,List.length_map,List.length_map]
            omega
           rw [← hop] at r1 r2 r3 r4
           obtain ⟨n0,hn0⟩ : ∃ n0,n0 = outp.length:=⟨_,rfl⟩
           rw [← hn0] at r1 r2 r3 r4 hn0b
           obtain ⟨q1,q2,hq1⟩ : ∃ q1 q2,widerP ⟨xf,xt⟩ (-sl) ⟨a,b⟩ = ⟨q1,q2⟩:=⟨_,_,rfl⟩
           obtain ⟨q3,q4,hq3⟩ : ∃ q1 q2,widerP ⟨xf,xt⟩ sl ⟨a,b⟩ = ⟨q1,q2⟩:=⟨_,_,rfl⟩
           have hbd' : -1000000 ≤ xf ∧ xf ≤ 10000000 ∧ -1000000 ≤ xt ∧ xt ≤ 10000000:=hbd
           have hw1:=fun w => wider_any xf xt (-sl) a b w (by omega) (by omega) (by omega)
           have hw2:=fun w => wider_any xf xt sl a b w (by omega) (by omega) (by omega)
           simp only [hq1] at hw1
           simp only [hq3] at hw2
           have HW1:=Lib.hid hw1
           have HW2:=Lib.hid hw2
           have hpn : pasCells (passOne s ⟨id,⟨x,y⟩,re,an,sk⟩ ⟨a,b⟩ ⟨xf,xt⟩) = [.int .i64 s.id,.int .i64 id,.int .i64 q1,.int .i64 q2,.int .i64 q3,.int .i64 q4]:=by
            simp only [pasCells,passOne,HO.out,hq1,hq3]
           have HPN:=Lib.hid hpn
           have HOP:=Lib.hid hop
           have HN0:=Lib.hid hn0
           clear hw1 hw2 hpn hop hn0 hq1 hq3
           have o0 : W.cell? ⟨gu,0,none⟩ = some (.slice A0 n0 c0):=r1.cell 0
           have p0 : W.cell? ⟨gp,0,none⟩ = some (.int .i64 a):=hkp.cell 0
           have p1 : W.cell? ⟨gp,1,none⟩ = some (.int .i64 b):=hkp.cell 1
           have y0 : W.cell? ⟨g9,0,none⟩ = some (.int .i64 s.id):=(HCELL.out _ _ htt.kx).1
           have l0 : W.cell? ⟨gl,0,none⟩ = some (.int .i64 sl):=htt.kl.cell 0
           have z0 : W.cell? ⟨gs,0,none⟩ = some (.int .i64 id):=hks.cell 0
           have x0 : W.cell? ⟨Bx,0,none⟩ = some (.int .i64 xf):=KB.cell 0
           have x1 : W.cell? ⟨Bx,1,none⟩ = some (.int .i64 xt):=KB.cell 1
           gi_wp2_with fail
           refine wpIn_region_round 16 (fun ix vals v w1 => match ix with | 0 => v = .slice A0 n0 c0 | 1 => v = .pointer (some ⟨g9,0,none⟩) | 2 => v = .int .i64 s.id | 3 => v = .pointer (some ⟨gs,0,none⟩) | 4 => v = .int .i64 id | 5 => v = .agg #[.int .i64 xf,.int .i64 xt] | 6 => v = .int .i64 sl | 7 => v = .int .i64 (-sl) | 8 => v = .agg #[.int .i64 a,.int .i64 b] | 9 => v = .agg #[.int .i64 q1,.int .i64 q2] | 10 => v = .agg #[.int .i64 xf,.int .i64 xt] | 11 => v = .int .i64 sl | 12 => v = .agg #[.int .i64 a,.int .i64 b] | 13 => v = .agg #[.int .i64 q3,.int .i64 q4] | 14 => v = .agg #[.int .i64 s.id,.int .i64 id,.int .i64 q1,.int .i64 q2,.int .i64 q3,.int .i64 q4] | _ => ∃ gx,v = .slice (some ⟨gx,0,none⟩) 1 1 ∧ W.heap.size ≤ gx ∧ Blk w1 gx 75 #[.int .i64 s.id,.int .i64 id,.int .i64 q1,.int .i64 q2,.int .i64 q3,.int .i64 q4]) (by kernel_rfl) (by kernel_rfl) (by kernel_rfl) ?_ ?_ ?_ ?_
           ·intro ix vals v w1 w2 hi hr hx
            match ix,hr with
            | 0,hr => exact hr
            | 1,hr => exact hr
            | 2,hr => exact hr
            | 3,hr => exact hr
            | 4,hr => exact hr
            | 5,hr => exact hr
            | 6,hr => exact hr
            | 7,hr => exact hr
            | 8,hr => exact hr
            | 9,hr => exact hr
            | 10,hr => exact hr
            | 11,hr => exact hr
            | 12,hr => exact hr
            | 13,hr => exact hr
            | 14,hr => exact hr
            | (kx + 15),hr => obtain ⟨gx,h1,h2,h3⟩:=hr; exact ⟨gx,h1,h2,h3.ext hx⟩
           ·intro ix vals vals_ v w1 hi hv hr
            exact hr
           ·refine ⟨?_,?_,?_,?_,?_,?_,?_,?_,?_,?_,?_,?_,?_,?_,?_,?_,trivial⟩
            ·intro vals w1 hx hd ha
             clear hd ha
             simp only [Lf]
             have o0:=ext_cell hx o0
             go_wp2
             exact q_
            ·intro vals w1 hx hd ha
             clear hd ha
             simp only [Lf,dstAt,Act.put,FR_]
             go_wp2
             exact q_
            ·intro vals w1 hx hd ha
             have e1 : vals 1 = .pointer (some ⟨g9,0,none⟩):=hd 1 (by decide)
             clear hd ha
             simp only [Lf,dstAt,Act.put,FR_,e1]
             clear e1
             have y0:=ext_cell hx y0
             go_wp2
             exact q_
            ·intro vals w1 hx hd ha
             clear hd ha
             simp only [Lf,dstAt,Act.put,FR_]
             go_wp2
             exact q_
            ·intro vals w1 hx hd ha
             have e3 : vals 3 = .pointer (some ⟨gs,0,none⟩):=hd 3 (by decide)
             clear hd ha
             simp only [Lf,dstAt,Act.put,FR_,e3]
             clear e3
             have z0:=ext_cell hx z0
             go_wp2
             exact q_
            ·intro vals w1 hx hd ha
             clear hd ha
             simp only [Lf,dstAt,Act.put,FR_]
             have x0:=ext_cell hx x0
             have x1:=ext_cell hx x1
             go_wp2
             exact q_
            ·intro vals w1 hx hd ha
             clear hd ha
             simp only [Lf,dstAt,Act.put,FR_]
             have l0:=ext_cell hx l0
             go_wp2
             exact q_
            ·intro vals w1 hx hd ha
             have e6 : vals 6 = .int .i64 sl:=hd 6 (by decide)
             clear hd ha
             simp only [Lf,dstAt,Act.put,FR_,e6]
             clear e6
             go_wp2
             exact q_
            ·intro vals w1 hx hd ha
             clear hd ha
             simp only [Lf,dstAt,Act.put,FR_]
             have p0:=ext_cell hx p0
             have p1:=ext_cell hx p1
             go_wp2
             exact q_
            ·intro vals w1 hx hd ha
             have e5 : vals 5 = .agg #[.int .i64 xf,.int .i64 xt]:=hd 5 (by decide)
             have e7 : vals 7 = .int .i64 (-sl):=hd 7 (by decide)
             have e8 : vals 8 = .agg #[.int .i64 a,.int .i64 b]:=hd 8 (by decide)
             clear hd ha
             simp only [Lf,dstAt,Act.put,FR_,e5]
             simp only [e7]
             simp only [e8]
             clear e5 e7 e8
             go_wp2_with fail
             refine (HW1.out _).mono ?_
             rintro e w2 ⟨rfl,hb2⟩
             go_wp2
             exact ⟨rfl,hb2,rfl⟩
            ·intro vals w1 hx hd ha
             clear hd ha
             simp only [Lf,dstAt,Act.put,FR_]
             have x0:=ext_cell hx x0
             have x1:=ext_cell hx x1
             go_wp2
             exact q_
            ·intro vals w1 hx hd ha
             clear hd ha
             simp only [Lf,dstAt,Act.put,FR_]
             have l0:=ext_cell hx l0
             go_wp2
             exact q_
            ·intro vals w1 hx hd ha
             clear hd ha
             simp only [Lf,dstAt,Act.put,FR_]
             have p0:=ext_cell hx p0
             have p1:=ext_cell hx p1
             go_wp2
             exact q_
            ·intro vals w1 hx hd ha
             have e9 : vals 9 = .agg #[.int .i64 q1,.int .i64 q2]:=hd 9 (by decide)
             have e10 : vals 10 = .agg #[.int .i64 xf,.int .i64 xt]:=hd 10 (by decide)
             have e11 : vals 11 = .int .i64 sl:=hd 11 (by decide)
             have e12 : vals 12 = .agg #[.int .i64 a,.int .i64 b]:=hd 12 (by decide)
             clear hd ha
             simp only [Lf,dstAt,Act.put,FR_,e9]
             simp only [e10]
             simp only [e11]
             simp only [e12]
             clear e9 e10 e11 e12
             go_wp2_with fail
             refine (HW2.out _).mono ?_
             rintro e w2 ⟨rfl,hb2⟩
             go_wp2
             exact ⟨rfl,hb2,rfl⟩
            ·intro vals w1 hx hd ha
             have e2 : vals 2 = .int .i64 s.id:=hd 2 (by decide)
             have e4 : vals 4 = .int .i64 id:=hd 4 (by decide)
             have e9 : vals 9 = .agg #[.int .i64 q1,.int .i64 q2]:=hd 9 (by decide)
             have e13 : vals 13 = .agg #[.int .i64 q3,.int .i64 q4]:=hd 13 (by decide)
             clear hd ha
             simp only [Lf,dstAt,Act.put,FR_,e2,e4,e9,e13]
             clear e2 e4 e9 e13
             go_wp2
             exact q_
            ·intro vals w1 hx hd ha
             have e14 : vals 14 = .agg #[.int .i64 s.id,.int .i64 id,.int .i64 q1,.int .i64 q2,.int .i64 q3,.int .i64 q4]:=hd 14 (by decide)
             clear hd ha
             simp only [Lf,dstAt,Act.put,FR_,e14]
             clear e14
             have hz:=Below.size hx.undrew
             go_wp2
             exact ⟨rfl,(by repeat (first | exact Below.refl _ _ | assumption | refine Below.drew ?_ | refine below_drewN ?_ _ | refine bl_alloc ?_ _ | refine Below.setCell ?_ (by first | (simp; done) | omega | (simp; omega)) _ | refine bl_then ?_ (by assumption))),_,rfl,by omega,Blk.new _ _ _⟩
           intro vals w5 hx5 hf
           have e0 : vals 0 = .slice A0 n0 c0:=hf 0 (by omega)
           obtain ⟨gx,e15,hgx,jx⟩ : ∃ gx,vals 15 = .slice (some ⟨gx,0,none⟩) 1 1 ∧ W.heap.size ≤ gx ∧ Blk w5 gx 75 #[.int .i64 s.id,.int .i64 id,.int .i64 q1,.int .i64 q2,.int .i64 q3,.int .i64 q4]:=hf 15 (by omega)
           clear hf o0 p0 p1 y0 l0 z0 x0 x1
           have hx5:=hx5.undrew
           obtain ⟨i0,hi0,hz0,hz1,hz2⟩:=info_parts info_pas
           have hsz6:=hx5.size
           have hws : w.heap.size ≤ W.heap.size:=hbl.size
           obtain ⟨v2,W7,hr,hrow2,hg2,hprec,hr4⟩:=run_append_prec2 (P:=Tryz.prog) w5 w.heap.size 36 36 75 i0 _ 6 48 Tryz.underlying36 hi0 hz0 hz1 hz2 rfl (by omega) _ n0 _ (own_ext r2 hx5) r3 ⟨gx,0,none⟩ 1 (pasCells (passOne s ⟨id,⟨x,y⟩,re,an,sk⟩ ⟨a,b⟩ ⟨xf,xt⟩)) rfl
            (by intro i u hu; rw [HPN.out] at hu; rw [Addr.add_lit,Nat.zero_add,jx.cell]; simpa using hu) (by rw [HPN.out]; simp [Value.oneCell']) (by unfold maxLen; omega) (by omega) (by omega)
           obtain ⟨A2,c2,hv,_,_⟩:=own_slice hrow2
           subst hv
           have hown5:=own_ext r2 hx5
           have r1':=(r1.ext hx5).grown hg2 (fun e => own_blk_ne hown5 (r1.ext hx5) (by decide) e.symm)
           have HK : Hid (KeepsOthers W (W7.setCell ⟨gu,0,none⟩ (.slice A2 (n0 + 1) c2))):=Lib.hid (((keeps_ext hx5).trans (keeps_own hown5 hg2)).trans (KeepsOthers.setCell _ _ _))
           have HP : Hid (KpS (fun q => q = gu ∨ v0.ownBlock = some q) W5.heap.size W (W7.setCell ⟨gu,0,none⟩ (.slice A2 (n0 + 1) c2))):=Lib.hid (((KpS.ext hx5).trans (KpS.append2 (fun q hq => by rcases r4 q hq with h | h; exact .inl (.inr h); exact .inr h) hg2 hprec)).trans (KpS.setCell _ _ _ (.inl rfl)))
           have hkp' : ∀ {g : Nat} {t : TypeId} {cs : Array Value},Blk W g t cs → 75 ≠ t → t ≠ 36 → Blk (W7.setCell ⟨gu,0,none⟩ (.slice A2 (n0 + 1) c2)) g t cs:=fun K h1 h2 =>
            ((K.ext hx5).grown hg2 (fun e => own_blk_ne hown5 (K.ext hx5) h1 e.symm)).far (p:=⟨gu,0,none⟩) (Blk.ne_ K r1 h2) _
           obtain ⟨crx,hkr⟩:=htt.kr.blk
           have HI : Hid (RI w gp gu g9 gl gt gr gs j cr X #[.int .i64 id,.int .i64 x,.int .i64 y,.int .i64 re,.int .i64 an,.int .i64 sk] sl a b ⟨p,f,lo,hi,no,tu,sl⟩ (outK sats stns a b k ++ (stns.take i).flatMap (pairP s ⟨a,b⟩)) (passOne s ⟨id,⟨x,y⟩,re,an,sk⟩ ⟨a,b⟩) Ds W5.heap.size v0 (pre ++ [⟨⟨xf,xt⟩,hbd⟩]) (W7.setCell ⟨gu,0,none⟩ (.slice A2 (n0 + 1) c2))):=by
            have hlist : (outK sats stns a b k ++ (stns.take i).flatMap (pairP s ⟨a,b⟩)) ++ ((pre ++ [(⟨⟨xf,xt⟩,hbd⟩ : BSpl)]).map (·.1)).map (passOne s ⟨id,⟨x,y⟩,re,an,sk⟩ ⟨a,b⟩) = outp ++ [passOne s ⟨id,⟨x,y⟩,re,an,sk⟩ ⟨a,b⟩ ⟨xf,xt⟩]:=by rw [HOP.out]; simp
            have hlen1 : (outp ++ [passOne s ⟨id,⟨x,y⟩,re,an,sk⟩ ⟨a,b⟩ ⟨xf,xt⟩]).length = n0 + 1:=by rw [HN0.out]; simp
            refine Lib.hid ⟨hkp' hkp (by decide) (by decide),hkp' hks (by decide) (by decide),⟨.slice A2 (n0 + 1) c2,r1'.set_ 0 _,?_,?_,?_⟩,?_,hmk.keeps HK.out,hml,⟨hkp' htt.kx (by decide) (by decide),hkp' htt.kl (by decide) (by decide),hkp' htt.kt (by decide) (by decide),htt.kr.same ((hkp' hkr (by decide) (by decide)).trans hkr.symm)⟩,Nat.le_trans hsz HK.out.size⟩
            ·rw [hlist,hlen1,List.flatMap_append]
             have hq:=own_set hrow2 (p:=⟨gu,0,none⟩) (fun e => own_blk_ne hrow2 r1' (by decide) e) (.slice A2 (n0 + 1) c2)
             simpa using hq
            ·rw [hlist,hlen1]; intro h; omega
            ·intro q hq
             rcases hr4 q hq with h | h
             ·exact r4 q h
             ·exact .inr (by omega)
            ·have hb7 : Below w.heap.size w W7:=(bl_then hbl hx5).grown hg2 (by omega) (fun q e => (World.ownsRow.lt r2 q e).1)
             exact hb7.setCell (p:=⟨gu,0,none⟩) (by have:=HHgu.out; show w.heap.size ≤ gu; omega) _
           have HR:=Lib.hid hr
           have o1 : W7.frozen? ⟨gu,0,none⟩ = false:=r1'.frozen 0
           have o2 : W7.cell? ⟨gu,0,none⟩ = some (.slice A0 n0 c0):=r1'.cell 0
           clear hr hrow2 hg2 hprec hr4 hown5 r1' hkp' hkr r1 r2 r3 r4 hkp hks hbl hmk hml htt hsz jx hx5 KB
           refine tailF 16 _ _ 1 (by kernel_rfl) rfl ?_ (fun a w q => tail1 17 _ (by kernel_rfl) (by kernel_rfl) rfl q)
           simp only [Lf,dstAt,Act.put,FR_]
           rw [e0,e15]
           clear e0 e15
           refine wpList_append_run_ rfl _ _ _ rfl rfl rfl HR.out ?_
           go_wp2
           refine Qn_of ?_
           exact ⟨HK.out.from _,HP.out,HI.out⟩
          case hdone =>
           clear hri hpi htt r1 r1' r2 r2' r3 kf kt ki n1 n2 n3 n4 n5 n6 n7 n8 hv0 KS hkr hx
           intro D xs W hD hxs hI hK
           obtain ⟨hkp,hks,⟨v,r1,r2,r3,r4⟩,hbl,hmk,hml,htt,hsz⟩:=hI
           have hsl : s.orbit.slack = sl:=by rw [HO.out]
           have hpair : (xs.map (·.1)).map (passOne s ⟨id,⟨x,y⟩,re,an,sk⟩ ⟨a,b⟩) = pairP s ⟨a,b⟩ ⟨id,⟨x,y⟩,re,an,sk⟩:=by
            rw [hxs,pairP,hsl,HO.out,show b + sl - (a - sl) = b - a + 2 * sl by omega]
           have hnew : (outK sats stns a b k ++ (stns.take i).flatMap (pairP s ⟨a,b⟩)) ++ (xs.map (·.1)).map (passOne s ⟨id,⟨x,y⟩,re,an,sk⟩ ⟨a,b⟩) = outK sats stns a b k ++ (stns.take (i + 1)).flatMap (pairP s ⟨a,b⟩):=by
            rw [stn_succ stns a b s i _ (by rw [HTL.out]; exact hit) HST.out,hpair,List.append_assoc]
           rw [hnew] at r2 r3
           have hole:=out_le sats stns a b k (i + 1) s (by rw [HSL.out]; exact hlt) HSS.out
           obtain ⟨outp,hop⟩ : ∃ o,o = outK sats stns a b k ++ (stns.take (i + 1)).flatMap (pairP s ⟨a,b⟩):=⟨_,rfl⟩
           have hmk2 : MarksOK w.heap.size (D :: Ds) W:=hmk.cons (by have:=hbl.size; have:=hB5_; omega) hK (fun h => by have:=hml D h; omega)
           have hpi2 : PI w gp gu a b outp (D :: Ds) W:=⟨hkp,⟨v,r1,by rw [hop]; exact r2,by rw [hop]; exact r3⟩,hbl,hmk2⟩
           rw [← hop] at r2 r3 hole
           obtain ⟨A',c',hv,hvc,_⟩:=own_slice r2
           subst hv
           have o0 : W.cell? ⟨gu,0,none⟩ = some (.slice A' outp.length c'):=r1.cell 0
           have o1 : W.frozen? ⟨gu,0,none⟩ = false:=r1.frozen 0
           have HOP:=Lib.hid hop
           obtain ⟨n0,hn0⟩ : ∃ n,n = outp.length:=⟨_,rfl⟩
           rw [← hn0] at o0 hole
           have HN0:=Lib.hid hn0
           have HPI2:=Lib.hid hpi2
           have HTT2:=Lib.hid htt
           have HHOLE:=Lib.hid hole
           have K0:=Lib.hid r1
           have HMK2:=Lib.hid hmk2
           have HBL:=Lib.hid hbl
           clear hkp hks r1 r2 r3 r4 hbl hmk hml htt hsz hxs hpair hnew hole hop hmk2 hpi2 hn0 hsl hvc HPS HTT
           by_cases h64 : n0 ≤ 64
           ·have h64' : (n0 : Int) ≤ 64:=by omega
            gi_wp2
            go_roundw
            case rel => exact ⟨_,_,_,_,_,_,_,_,_,_,_,_,_,_,_,_,_,_,_,_,_,_,_,_,_,_,_,_,_,_,_,_,_,_,_,_,_,_,_,_,_,_,⟨i + 1,D :: Ds,by omega,by go_num,rfl,Lib.hid ⟨by rw [← HOP.out,← HN0.out]; exact h64,by rw [← HOP.out]; exact HPI2.out⟩,HTT2⟩,rfl⟩
            case measure => simp [intOf]; omega
           ·have h64' : ¬ (n0 : Int) ≤ 64:=by omega
            have hr0 : res = none:=by
             have h4 : res = if (allP sats stns ⟨a,b⟩).length ≤ 64 then some (sortP (ltOf cmpPas) (allP sats stns ⟨a,b⟩)) else none:=by first | exact HF4.out rfl rfl rfl | exact HF4.out trivial trivial trivial
             rw [h4,if_neg (by have:=HHOLE.out; omega)]
            have HR0:=Lib.hid hr0
            clear hr0
            gi_wp2
            refine leave_marks (B:=w.heap.size) (J:=NilJ w gu) (nilJ_own w gu) (fun W' hj => ?_) (D :: Ds) _ (HMK2.out.keeps (KeepsOthers.setCell _ _ _)) ⟨K0.out.set_ 0 _,HBL.out.setCell (p:=⟨gu,0,none⟩) (by have:=HHgu.out; show w.heap.size ≤ gu; omega) _⟩
            have hc : W'.cell? ⟨gu,0,none⟩ = some (.slice none 0 0):=hj.1.cell 0
            exact ⟨.tuple #[.slice none 0 0,.int .i64 90],by simp [results,Tryz.results35,go_sem,hc],by rw [HR0.out]; exact ⟨rfl,hj.2⟩⟩
         ·have hpl : PL sats stns w gp gu a b (k + 1) Ds wr:=by
           have e:=out_succ sats stns a b k s (by rw [HSL.out]; exact hlt) HSS.out
           rw [HTL.out] at e
           have h:=HPS.out
           rw [show i = tn by omega,PS,e] at h
           exact h
          have HPL2:=Lib.hid hpl
          clear hpl HPS HTT
          gi_wp2
          go_roundw
          case rel => exact ⟨_,_,_,_,_,_,_,_,_,_,_,_,_,_,_,_,_,_,_,_,_,_,_,_,_,_,_,_,_,_,_,_,_,_,_,_,_,_,_,_,_,_,_,_,_,_,_,_,_,_,_,_,_,_,_,_,_,_,_,_,_,_,_,_,_,_,_,_,_,_,_,_,_,_,_,_,_,_,_,_,_,_,_,_,_,_,_,_,_,_,_,⟨k + 1,Ds,by omega,by go_num,rfl,HPL2⟩,rfl⟩
          case measure => simp [intOf]; omega
     ·skip
      have hall : outK sats stns a b k = allP sats stns ⟨a,b⟩:=by rw [outK,List.take_of_length_le (by rw [HSL.out]; omega)]; rfl
      obtain ⟨hlen,hpi⟩:=HPL.out
      rw [hall] at hlen hpi
      have hr0 : res = some (sortP (ltOf cmpPas) (allP sats stns ⟨a,b⟩)):=by
       have h4 : res = if (allP sats stns ⟨a,b⟩).length ≤ 64 then some (sortP (ltOf cmpPas) (allP sats stns ⟨a,b⟩)) else none:=by first | exact HF4.out rfl rfl rfl | exact HF4.out trivial trivial trivial
       rw [h4,if_pos hlen]
      have hNN:=HN.out hlen
      obtain ⟨v,r1,r2,r3⟩:=hpi.row
      obtain ⟨outp,hop⟩ : ∃ o,o = allP sats stns ⟨a,b⟩:=⟨_,rfl⟩
      rw [← hop] at r2 r3 hlen hr0 hNN
      have HR0:=Lib.hid hr0
      have HMK:=Lib.hid hpi.marks
      have HBL:=Lib.hid hpi.below
      obtain ⟨n0,hn0⟩ : ∃ n,n = outp.length:=⟨_,rfl⟩
      rw [← hn0] at r2 r3 hlen hNN
      have HN0:=Lib.hid hn0
      clear hall hpi hr0 hop hn0 HPL
      by_cases hz : n0 = 0
      ·have hv:=r3 hz
       subst hv
       have hol : outp = []:=List.eq_nil_of_length_eq_zero (by rw [← HN0.out]; exact hz)
       have HOL:=Lib.hid hol
       have hown : wr.ownsRow w.heap.size 75 6 (.slice none 0 0) 0 []:=World.ownsRow_nil _ _ _ _
       have o0 : wr.cell? ⟨gu,0,none⟩ = some (.slice none 0 0):=r1.cell 0
       have o1 : wr.frozen? ⟨gu,0,none⟩ = false:=r1.frozen 0
       have R1:=Lib.hid r1
       have HOWN:=Lib.hid hown
       clear r1 r2 r3 hol hown hz hlen hNN
       gi_wp2_with fail
       refine ⟨trivial,(callsIn_wide.2 (sort_nil 68 #[] _)).mono ?_⟩
       rintro e w2 ⟨rfl,rfl⟩
       gi_wp2
       refine leave_marks (B:=w.heap.size) (J:=EndJ w gu (.slice none 0 0) []) (endJ_own w gu _ _) (fun W' hj => ?_) Ds _ (HMK.out.keeps (KeepsOthers.setCell _ _ _)) ⟨R1.out.set_ 0 _,own_set HOWN.out (p:=⟨gu,0,none⟩) (by simp [Value.ownBlock]) _,HBL.out.setCell (p:=⟨gu,0,none⟩) (by have:=HHgu.out; show w.heap.size ≤ gu; omega) _⟩
       have hc : W'.cell? ⟨gu,0,none⟩ = some (.slice none 0 0):=hj.1.cell 0
       exact ⟨.tuple #[.slice none 0 0,.int .i64 0],by simp [results,Tryz.results35,go_sem,hc],by rw [HR0.out,HOL.out]; exact ⟨_,rfl,hj.2.1,hj.2.2⟩⟩
      ·obtain ⟨g,c,hv,hgb,hgl⟩:=World.ownsRow.form r2 (by omega)
       subst hv
       have hrow : RowS pasCells 6 w.heap.size 75 g n0 c wr outp:=⟨HN0.out.symm,r2⟩
       have hsrt:=HSORT.out w.heap.size g n0 c outp wr hrow hNN
       have HSRT:=Lib.hid hsrt
       have o0 : wr.cell? ⟨gu,0,none⟩ = some (.slice (some ⟨g,0,none⟩) n0 c):=r1.cell 0
       have hne : gu ≠ g:=fun e => own_blk_ne r2 r1 (by decide) (by rw [e]; rfl)
       have R1:=Lib.hid r1
       have R2:=Lib.hid r2
       have HNE:=Lib.hid hne
       clear r1 r2 r3 hrow hsrt hz hlen hNN hne
       gi_wp2_with fail
       refine ⟨trivial,(callsIn_wide.2 HSRT.out).mono ?_⟩
       rintro e w2 ⟨rfl,hrow2,hg2⟩
       have k1:=R1.out.grown hg2 (fun e => HNE.out (by injection e))
       have hkk : KeepsOthers wr w2:=keeps_own R2.out hg2
       have hb2 : Below w.heap.size w w2:=HBL.out.grown hg2 HBL.out.size (fun q e => by injection e with e; omega)
       have hl2 : (sortP (ltOf cmpPas) outp).length = n0:=by rw [length_sortP]; exact HN0.out.symm
       have o0 : w2.cell? ⟨gu,0,none⟩ = some (.slice (some ⟨g,0,none⟩) n0 c):=k1.cell 0
       have o1 : w2.frozen? ⟨gu,0,none⟩ = false:=k1.frozen 0
       have hend : EndJ w gu (.slice (some ⟨g,0,none⟩) n0 c) (sortP (ltOf cmpPas) outp) (w2.setCell ⟨gu,0,none⟩ (.slice (some ⟨g,0,none⟩) n0 c)):=by
        refine ⟨k1.set_ 0 _,?_,hb2.setCell (p:=⟨gu,0,none⟩) (by have:=HHgu.out; show w.heap.size ≤ gu; omega) _⟩
        rw [hl2]
        exact own_set hrow2.2 (p:=⟨gu,0,none⟩) (fun e => own_blk_ne hrow2.2 k1 (by decide) e) _
       have HEND:=Lib.hid hend
       have HM2:=Lib.hid (HMK.out.keeps (hkk.trans (KeepsOthers.setCell w2 ⟨gu,0,none⟩ (.slice (some ⟨g,0,none⟩) n0 c))))
       clear hrow2 hg2 k1 hkk hb2 hl2 hend
       gi_wp2
       refine leave_marks (B:=w.heap.size) (J:=EndJ w gu (.slice (some ⟨g,0,none⟩) n0 c) (sortP (ltOf cmpPas) outp)) (endJ_own w gu _ _) (fun W' hj => ?_) Ds _ HM2.out HEND.out
       have hc : W'.cell? ⟨gu,0,none⟩ = some (.slice (some ⟨g,0,none⟩) n0 c):=hj.1.cell 0
       exact ⟨.tuple #[.slice (some ⟨g,0,none⟩) n0 c,.int .i64 0],by simp [results,Tryz.results35,go_sem,hc],by rw [HR0.out]; exact ⟨_,rfl,hj.2.1,hj.2.2⟩⟩
end Go.Proofs.YtjidhhfabfnhnaaGreat
