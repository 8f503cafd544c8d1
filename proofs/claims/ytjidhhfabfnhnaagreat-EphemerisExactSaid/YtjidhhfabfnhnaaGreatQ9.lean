/- The law EphemerisExact of the ephemeris layer: for every input the call returns true and each argument reads afterwards as it read before: passes differ by what became known alone, Changes says how, and without updates they are those of contact.Passes. No condition. -/
import Derived.Test.YtjidhhfabfnhnaaGreatK29
namespace Go.Proofs.YtjidhhfabfnhnaaGreat
section
variable {α:Type} {lt:α→α→Bool}
theorem mem_insR {B:List α} {x y:α} : y∈insR lt B x ↔ y=x ∨ y∈B:=by
 unfold insR
 rw [List.mem_append,List.mem_cons]
 constructor
 ·rintro (h | h | h)
  ·exact .inr (List.mem_of_mem_take h)
  ·exact .inl h
  ·exact .inr (List.mem_of_mem_drop h)
 ·rintro (h | h)
  ·exact .inr (.inl h)
  ·rw [← List.take_append_drop (posR lt B x) B,List.mem_append] at h
   rcases h with h | h
   ·exact .inl h
   ·exact .inr (.inr h)
end
theorem stnP_ok (id x0 x1 x2 x3:Int) : stnOK (stnP id x0 x1 x2 x3)=true:=by
 have q0:=pickI_bd id 12 (by omega)
 have q1:=pickI_bd x0 48 (by omega)
 have q2:=pickI_bd x1 24 (by omega)
 have q3:=pickI_bd x2 5 (by omega)
 have q4:=pickI_bd x3 2 (by omega)
 have q5:=pickI_bd (x3.tdiv 2) 9 (by omega)
 simp only [stnOK,stnP,celOK,Bool.and_eq_true,inB_iff]
 omega
theorem stnA_ok (i:Nat) (a:A4) : stnOK (stnA i a)=true:=stnP_ok _ _ _ _ _
theorem stnA_id (i:Nat) (a:A4) (h:i < 3) : (stnA i a).id=3 * (i:Int):=pickI_small ⟨by omega,by omega⟩
theorem stnsP_len (z:List A4) : (stnsP z).length≤3:=by rw [stnsP,stnsK_len]; omega
theorem stnsP_get (z:List A4) (i:Nat) (h:i < (stnsP z).length) : stnOK (stnsP z)[i]=true∧(stnsP z)[i].id=3 * (i:Int):=by
 have h3:=stnsP_len z
 simp only [stnsP,stnsK,List.getElem_map,List.getElem_range]
 exact ⟨stnA_ok _ _,stnA_id _ _ (by omega)⟩
theorem stnsP_OK (z:List A4) : stnsOK (stnsP z)=true:=by
 have h3:=stnsP_len z
 rw [stnsOK,decide_eq_true (by omega),Bool.true_and]
 exact listOK_of _ _ (fun i h=>(stnsP_get z i h).1) (fun i h=>by rw [(stnsP_get z i (by omega)).2,(stnsP_get z (i+1) h).2]; omega) (fun _ h=>by cases h)
theorem stns_okP (c:Cas) : stnsOK (stnsC c)=true:=stnsP_OK _
end Go.Proofs.YtjidhhfabfnhnaaGreat
namespace Go.Proofs.YtjidhhfabfnhnaaGreat
section
variable {α:Type} {lt:α→α→Bool}
theorem insR_comm (h:SW lt) {M:List α} (hM:Srtd lt M) {x y:α} (hxy:lt x y=true) : insR lt (insR lt M x) y=insR lt (insR lt M y) x:=by
 obtain ⟨M1,M2,rfl,h1,h2⟩:=sorted_parts h M x hM
 have hM2:Srtd lt M2:=(srtd_append.1 hM).2.1
 obtain ⟨M2a,M2b,rfl,h3,h4⟩:=sorted_parts h M2 y hM2
 have hyx:=h.asy _ _ hxy
 have hy1:∀ z∈M1,lt y z=false:=fun z hz=>h.ntr _ _ _ hyx (h1 z hz)
 rw [insR_at lt M1 (M2a ++ M2b) x h1 h2]
 have e1:insR lt (M1 ++ x :: (M2a ++ M2b)) y=M1 ++ x :: (M2a ++ y :: M2b):=by
  have:=insR_at lt (M1 ++ x :: M2a) M2b y (fun z hz=>by
   rcases List.mem_append.1 hz with hz | hz
   ·exact hy1 z hz
   ·rcases List.mem_cons.1 hz with rfl | hz
    ·exact hyx
    ·exact h3 z hz) h4
  simpa using this
 have e2:insR lt (M1 ++ (M2a ++ M2b)) y=M1 ++ (M2a ++ y :: M2b):=by
  have:=insR_at lt (M1 ++ M2a) M2b y (fun z hz=>by
   rcases List.mem_append.1 hz with hz | hz
   ·exact hy1 z hz
   ·exact h3 z hz) h4
  simpa using this
 rw [e1,e2]
 exact (insR_at lt M1 (M2a ++ y :: M2b) x h1 (fun z hz=>by
  rcases List.mem_append.1 hz with hz | hz
  ·exact h2 z (List.mem_append_left _ hz)
  ·rcases List.mem_cons.1 hz with rfl | hz
   ·exact hxy
   ·exact h2 z (List.mem_append_right _ hz))).symm
theorem foldl_past (h:SW lt) (x:α) : ∀ (B M:List α),Srtd lt M→(∀ y∈B,lt x y=true)→B.foldl (insR lt) (insR lt M x)=insR lt (B.foldl (insR lt) M) x
 | [],_,_,_=>rfl
 | y :: B,M,hM,hB=>by
  rw [List.foldl_cons,List.foldl_cons,insR_comm h hM (hB y (List.mem_cons_self ..)),foldl_past h x B _ (srtd_insR h hM y) (fun z hz=>hB z (List.mem_cons_of_mem _ hz))]
theorem foldl_sortP (h:SW lt) (L:List α) (hL:Srtd lt L) (B:List α) : (sortP lt B).foldl (insR lt) L=B.foldl (insR lt) L:=by
 suffices hh : ∀ (R:List α),(sortP lt R.reverse).foldl (insR lt) L=R.reverse.foldl (insR lt) L by have:=hh B.reverse; simpa using this
 intro R
 induction R with
 | nil=>rfl
 | cons x R ih =>
  rw [List.reverse_cons,List.foldl_append,List.foldl_cons,List.foldl_nil,← ih]
  have e:sortP lt (R.reverse ++ [x])=insR lt (sortP lt R.reverse) x:=by unfold sortP; rw [List.foldl_append]; rfl
  rw [e]
  obtain ⟨B1,B2,hB,h1,h2⟩:=sorted_parts h (sortP lt R.reverse) x (srtd_sortP h _)
  rw [hB,insR_at lt B1 B2 x h1 h2,List.foldl_append,List.foldl_append,List.foldl_cons]
  exact foldl_past h x B2 _ (srtd_foldl h B1 L hL) h2
theorem foldl_flat (h:SW lt) {β:Type} (g:β→List α) : ∀ (S:List β) (L:List α),Srtd lt L→(S.flatMap fun s=>sortP lt (g s)).foldl (insR lt) L=(S.flatMap g).foldl (insR lt) L
 | [],_,_=>rfl
 | s :: S,L,hL=>by
  rw [List.flatMap_cons,List.flatMap_cons,List.foldl_append,List.foldl_append,foldl_sortP h L hL,foldl_flat h g S _ (srtd_foldl h _ L hL)]
theorem sort_flat (h:SW lt) {β:Type} (g:β→List α) (S:List β) : sortP lt (S.flatMap fun s=>sortP lt (g s))=sortP lt (S.flatMap g):=foldl_flat h g S [] trivial
theorem mem_sortX {l:List α} {y:α} : y∈sortP lt l ↔ y∈l:=by
 suffices h : ∀ (l B:List α),y∈l.foldl (insR lt) B ↔ y∈l ∨ y∈B by simpa [sortP] using h l []
 intro l
 induction l with
 | nil=>intro B; simp
 | cons x l ih =>
  intro B
  rw [List.foldl_cons,ih,mem_insR,List.mem_cons]
  constructor
  ·rintro (h | h | h)
   ·exact .inl (.inr h)
   ·exact .inl (.inl h)
   ·exact .inr h
  ·rintro ((h | h) | h)
   ·exact .inr (.inl h)
   ·exact .inl h
   ·exact .inr (.inr h)
end
theorem allP_one (s:St) (ST:List Stn) (sp:Spl) : allP [s] ST sp=ST.flatMap (pairP s sp):=by simp [allP]
theorem passes_one_sat {s:St} {ST:List Stn} {sp:Spl} (hs:satOK s=true) (hT:stnsOK ST=true) (hsp:spanOK sp=true) :
  passesP [s] ST sp=if (allP [s] ST sp).length≤64 then some (sortP (ltOf cmpPas) (allP [s] ST sp)) else none:=by
 unfold passesP
 rw [if_pos (by rw [hsp,hT,show satsOK [s]=true by simp [satsOK,listOK,hs]]; rfl)]
theorem strE_nil (s:St) (sp:Spl) (x:Int) (h:sp.fr < sp.tt) : strE s [] sp x=[⟨sp,s.orbit⟩]:=by
 unfold strE
 have hr:=str_run (orbE s [] x) (sp.tt - sp.fr).toNat (sp.tt - sp.fr).toNat sp.fr (by omega) (Nat.le_refl _) (fun _ _=>rfl) (.inl rfl)
 rw [hr,Nat.sub_self,show sp.fr+((sp.tt - sp.fr).toNat : Int)=sp.tt by omega]
 rfl
theorem allE_nil {ST:List Stn} {sp:Spl} {x:Int} (hT:stnsOK ST=true) (hsp:spanOK sp=true) (h:sp.fr < sp.tt) : ∀ (S:List St),(∀ s∈S,satOK s=true) →
  allE ST [] sp x S=if ∀ s∈S,(allP [s] ST sp).length≤64 then some (S.flatMap fun s=>sortP (ltOf cmpPas) (allP [s] ST sp)) else none
 | [],_=>by simp [allE]
 | s :: S,hs=>by
  unfold allE
  rw [strE_nil s sp x h,allE_nil hT hsp h S (fun t ht=>hs t (List.mem_cons_of_mem _ ht))]
  have h1:partsE ST s [⟨sp,s.orbit⟩]=if (allP [s] ST sp).length≤64 then some (sortP (ltOf cmpPas) (allP [s] ST sp)) else none:=by
   unfold partsE
   rw [show movP s s.orbit=s from rfl,passes_one_sat (hs s (List.mem_cons_self ..)) hT hsp]
   by_cases h64 : (allP [s] ST sp).length≤64
   ·rw [if_pos h64]; simp [partsE]
   ·rw [if_neg h64]
  rw [h1]
  by_cases h64 : (allP [s] ST sp).length≤64
  ·rw [if_pos h64]
   by_cases hr : ∀ t∈S,(allP [t] ST sp).length≤64
   ·rw [if_pos hr,if_pos (fun t ht=>by
     rcases List.mem_cons.1 ht with rfl | ht
     ·exact h64
     ·exact hr t ht)]
    rfl
   ·rw [if_neg hr,if_neg (fun hh=>hr fun t ht=>hh t (List.mem_cons_of_mem _ ht))]
  ·rw [if_neg h64,if_neg (c:=∀ t∈s :: S,(allP [t] ST sp).length≤64) (fun hh=>h64 (hh s List.mem_cons_self))]
theorem flat_lenX (S:List St) (ST:List Stn) (sp:Spl) : (S.flatMap fun s=>sortP (ltOf cmpPas) (allP [s] ST sp)).length=(allP S ST sp).length:=by
 induction S with
 | nil=>rfl
 | cons s S ih =>
  rw [List.flatMap_cons,List.length_append,ih,length_sortP,allP_one]
  unfold allP
  rw [List.flatMap_cons,List.length_append]
theorem one_le (S:List St) (ST:List Stn) (sp:Spl) {s:St} (hs:s∈S) : (allP [s] ST sp).length≤(allP S ST sp).length:=by
 obtain ⟨A,B,rfl⟩:=List.append_of_mem hs
 unfold allP
 simp only [List.flatMap_append,List.flatMap_cons,List.length_append,List.flatMap_nil,List.append_nil]
 omega
theorem passesE_nil {S:List St} {ST:List Stn} {sp:Spl} {x:Int} (hS:satsOK S=true) (hs:∀ s∈S,satOK s=true) (hT:stnsOK ST=true) (h0:0≤sp.fr) (h1:sp.fr < sp.tt) (h2:sp.tt≤1000000) (h3:sp.tt - sp.fr≤1440) :
  passesE S ST [] sp x=passesP S ST sp:=by
 have hsp:spanOK sp=true:=by simp [spanOK]; omega
 have hspE:spanE sp=true:=by simp [spanE]; omega
 have hv:validE S []=true:=by unfold validE; rw [hS]; rfl
 unfold passesE passesP
 rw [if_pos (by rw [hspE,hv,hT]; rfl),if_pos (by rw [hsp,hS,hT]; rfl),allE_nil hT hsp h1 S hs]
 by_cases h64 : (allP S ST sp).length≤64
 ·rw [if_pos (fun s hs=>Nat.le_trans (one_le S ST sp hs) h64),if_pos h64]
  dsimp only
  rw [if_pos (by rw [flat_lenX]; exact h64),sort_flat sw_pas (fun s=>allP [s] ST sp) S]
  congr 2
  unfold allP
  congr 1
  funext s
  simp
 ·rw [if_neg h64]
  split
  ·rfl
  ·rename_i o ho
   split at ho
   ·injection ho with ho
    rw [if_neg (by rw [← ho,flat_lenX]; exact h64)]
   ·cases ho
theorem pair_sat {s:St} {sp:Spl} {y:Stn} {p:Pas} (h:p∈pairP s sp y) : p.sat=s.id:=by
 obtain ⟨x,_,rfl⟩:=List.mem_map.1 h
 rfl
theorem pas_sat {s:St} {ST:List Stn} {sp:Spl} {ps:List Pas} (h:passesP [s] ST sp=some ps) {p:Pas} (hp:p∈ps) : p.sat=s.id:=by
 unfold passesP at h
 split at h
 ·split at h
  ·injection h with h
   rw [← h,mem_sortX,allP_one] at hp
   obtain ⟨y,_,hy⟩:=List.mem_flatMap.1 hp
   exact pair_sat hy
  ·cases h
 ·cases h
theorem parts_sat {ST:List Stn} {s:St} : ∀ {xs:List Str} {ps:List Pas},partsE ST s xs=some ps→∀ p∈ps,p.sat=s.id
 | [],ps,h,p,hp=>by
  unfold partsE at h
  injection h with h
  rw [← h] at hp
  cases hp
 | x :: r,ps,h,p,hp=>by
  unfold partsE at h
  split at h
  ·rename_i a b ha hb
   injection h with h
   rw [← h] at hp
   rcases List.mem_append.1 hp with hp | hp
   ·exact pas_sat ha hp
   ·exact parts_sat hb p hp
  ·cases h
theorem all_memE {ST:List Stn} {l:List Upd} {sp:Spl} {kn:Int} : ∀ {S:List St} {o:List Pas},allE ST l sp kn S=some o→∀ p,p∈o ↔ ∃ s∈S,∃ ps,partsE ST s (strE s l sp kn)=some ps∧p∈ps
 | [],o,h,p=>by
  unfold allE at h
  injection h with h
  rw [← h]
  simp
 | s :: S,o,h,p=>by
  unfold allE at h
  split at h
  ·rename_i a b ha hb
   injection h with h
   rw [← h,List.mem_append,all_memE hb p]
   constructor
   ·rintro (hp | ⟨t,ht,ps,h1,h2⟩)
    ·exact ⟨s,List.mem_cons_self ..,a,ha,hp⟩
    ·exact ⟨t,List.mem_cons_of_mem _ ht,ps,h1,h2⟩
   ·rintro ⟨t,ht,ps,h1,h2⟩
    rcases List.mem_cons.1 ht with rfl | ht
    ·rw [ha] at h1
     injection h1 with h1
     exact .inl (by rw [h1]; exact h2)
    ·exact .inr ⟨t,ht,ps,h1,h2⟩
  ·cases h
theorem passesE_all {S:List St} {ST:List Stn} {l:List Upd} {sp:Spl} {kn:Int} {a:List Pas} (h:passesE S ST l sp kn=some a) : ∃ o,allE ST l sp kn S=some o∧a=sortP (ltOf cmpPas) o:=by
 unfold passesE at h
 split at h
 ·split at h
  ·cases h
  ·rename_i o ho
   split at h
   ·injection h with h
    exact ⟨o,ho,h.symm⟩
   ·cases h
 ·cases h
theorem best_congr {sat x y t:Int} : ∀ {l:List Upd} (b:Option Upd),(∀ u∈l,chU sat x t u=chU sat y t u)→bestU sat x t l b=bestU sat y t l b
 | [],_,_=>rfl
 | u :: r,b,h=>by
  unfold bestU
  have e:nxU sat x t b u=nxU sat y t b u:=by unfold nxU; rw [h u (List.mem_cons_self ..)]
  rw [e]
  exact best_congr _ (fun v hv=>h v (List.mem_cons_of_mem _ hv))
def newsU (id x y:Int) (u:Upd) : Bool:=u.sat == id && decide (x < u.kn) && decide (u.kn≤y)
theorem orbE_news {s:St} {l:List Upd} {x y:Int} (hxy:x≤y) (h:l.any (newsU s.id x y)=false) : orbE s l x=orbE s l y:=by
 funext t
 unfold orbE
 rw [best_congr none (fun u hu=>?_)]
 have h1:=List.any_eq_false.1 h u hu
 unfold chU
 by_cases e : u.sat=s.id
 ·have h2:¬ (x < u.kn∧u.kn≤y):=fun hh=>h1 (by simp [newsU,e,hh.1,hh.2])
  have h3:decide (u.kn≤x)=decide (u.kn≤y):=by
   by_cases h4 : u.kn≤x
   ·rw [decide_eq_true h4,decide_eq_true (by omega)]
   ·rw [decide_eq_false h4,decide_eq_false (by omega)]
  rw [h3]
 ·have h2:(u.sat == s.id)=false:=by simp [e]
  rw [h2]
  simp
theorem exact_news {S:List St} {ST:List Stn} {l:List Upd} {sp:Spl} {x y id:Int} {a b:List Pas} (hxy:x≤y) (ha:passesE S ST l sp x=some a) (hb:passesE S ST l sp y=some b)
  (h:l.any (newsU id x y)=false) {p:Pas} (hp:p.sat=id) : p∈a ↔ p∈b:=by
 obtain ⟨o1,h1,rfl⟩:=passesE_all ha
 obtain ⟨o2,h2,rfl⟩:=passesE_all hb
 rw [mem_sortX,mem_sortX,all_memE h1,all_memE h2]
 constructor
 ·rintro ⟨s,hs,ps,h3,h4⟩
  have e:=parts_sat h3 p h4
  have ho:strE s l sp x=strE s l sp y:=by unfold strE; rw [orbE_news hxy (by rw [← e,hp]; exact h)]
  exact ⟨s,hs,ps,by rw [← ho]; exact h3,h4⟩
 ·rintro ⟨s,hs,ps,h3,h4⟩
  have e:=parts_sat h3 p h4
  have ho:strE s l sp x=strE s l sp y:=by unfold strE; rw [orbE_news hxy (by rw [← e,hp]; exact h)]
  exact ⟨s,hs,ps,by rw [ho]; exact h3,h4⟩
theorem mem_without {a b:List Pas} {p:Pas} : p∈withoutP a b ↔ p∈a∧p∉b:=by
 unfold withoutP
 rw [List.mem_filter]
 simp
end Go.Proofs.YtjidhhfabfnhnaaGreat
namespace Go.Proofs.YtjidhhfabfnhnaaGreat
open Go.RowKit
theorem eql_pas (a b:Pas) (w:World) : (binOp .eql 75 (.agg #[.int .i64 a.sat,.int .i64 a.station,.int .i64 a.sure.fr,.int .i64 a.sure.tt,.int .i64 a.can.fr,.int .i64 a.can.tt]) (.agg #[.int .i64 b.sat,.int .i64 b.station,.int .i64 b.sure.fr,.int .i64 b.sure.tt,.int .i64 b.can.fr,.int .i64 b.can.tt])).run Tryz.prog w=.ok (.bool (decide (a=b))) w:=by
 have h:=eq_pas a b w
 rw [run_eql_struct]
 exact (congrArg (fun r=>Result.andThen r fun b w'=>.ok (Value.bool b) w') h)
theorem take_has {l:List Pas} {k:Nat} {x:Pas} (h:x∉l.take k) (hk:k < l.length) (he:¬ l[k]=x) : x∉l.take (k+1):=by
 rw [List.take_succ_eq_append_getElem hk,List.mem_append,List.mem_singleton]
 rintro (h1 | h1)
 ·exact h h1
 ·exact he h1.symm
set_option maxHeartbeats 2000000 in
theorem has36_any (A:Option Addr) (n c:Nat) (l:List Pas) (x:Pas) (w:World) (h:RA pasCells 6 w w.heap.size A n c l) :
  Calls Tryz.prog 36 #[.slice A n c,.agg (pasCells x).toArray] w fun e w'=>e=.returned (.bool (decide (x∈l)))∧Ext w w':=by
 have hn:n≤9223372036854775807:=h.le
 have HL:Hid (l.length=n):=Lib.hid h.len
 have H:=Lib.hid h
 clear h
 simp only [pasCells]
 have hx0:Ext w (w.alloc (.cells #[.int .i64 x.sat,.int .i64 x.station,.int .i64 x.sure.fr,.int .i64 x.sure.tt,.int .i64 x.can.fr,.int .i64 x.can.tt] 75)):=bl_alloc (Below.refl _ _) _
 have JX:Blk (w.alloc (.cells #[.int .i64 x.sat,.int .i64 x.station,.int .i64 x.sure.fr,.int .i64 x.sure.tt,.int .i64 x.can.fr,.int .i64 x.can.tt] 75)) w.heap.size 75 #[.int .i64 x.sat,.int .i64 x.station,.int .i64 x.sure.fr,.int .i64 x.sure.tt,.int .i64 x.can.fr,.int .i64 x.can.tt]:=Blk.new _ _ _
 go_enter Tryz.func36,Tryz.ntmps36
 go_upto_region 1 with (fail)
 generalize w.heap.size=gx at JX ⊢
 generalize w.alloc (.cells #[.int .i64 x.sat,.int .i64 x.station,.int .i64 x.sure.fr,.int .i64 x.sure.tt,.int .i64 x.can.fr,.int .i64 x.can.tt] 75)=W0 at JX hx0 ⊢
 have HJX:=Lib.hid JX
 have HB:=Lib.hid hx0
 clear JX hx0
 go_wp2
 go_loopw [5] (fun i wr=>∃ k : Nat,k≤n∧i=.int .i64 k∧Hid (x∉l.take k)∧Ext W0 wr) (fun i _=>n - (intOf i).toNat)
 case atStart=>exact ⟨0,Nat.zero_le _,rfl,Lib.hid (by simp),Below.refl _ _⟩
 case round =>
  obtain ⟨k,hk,rfl,HN,hX⟩:=hrel
  by_cases hlt : k < n
  ·obtain ⟨b,o,hz,hA,hb,hc⟩:=(H.out.below (Ext.trans HB.out hX)).at_ pas_len hlt
   subst hA
   have hstep:=take_has HN.out hz
   have hmem:l[k]∈l:=List.getElem_mem _
   generalize l[k]=y at hc hstep hmem
   have jx:=HJX.out.ext hX
   have c0:wr.cell? ⟨b,o+k * 6,none⟩=some (.int .i64 y.sat):=hc 0 (by simp)
   have d0:wr.cell? ⟨gx,0,none⟩=some (.int .i64 x.sat):=jx.cell 0
   have c1:wr.cell? ⟨b,o+k * 6+1,none⟩=some (.int .i64 y.station):=hc 1 (by simp)
   have d1:wr.cell? ⟨gx,1,none⟩=some (.int .i64 x.station):=jx.cell 1
   have c2:wr.cell? ⟨b,o+k * 6+2,none⟩=some (.int .i64 y.sure.fr):=hc 2 (by simp)
   have d2:wr.cell? ⟨gx,2,none⟩=some (.int .i64 x.sure.fr):=jx.cell 2
   have c3:wr.cell? ⟨b,o+k * 6+3,none⟩=some (.int .i64 y.sure.tt):=hc 3 (by simp)
   have d3:wr.cell? ⟨gx,3,none⟩=some (.int .i64 x.sure.tt):=jx.cell 3
   have c4:wr.cell? ⟨b,o+k * 6+4,none⟩=some (.int .i64 y.can.fr):=hc 4 (by simp)
   have d4:wr.cell? ⟨gx,4,none⟩=some (.int .i64 x.can.fr):=jx.cell 4
   have c5:wr.cell? ⟨b,o+k * 6+5,none⟩=some (.int .i64 y.can.tt):=hc 5 (by simp)
   have d5:wr.cell? ⟨gx,5,none⟩=some (.int .i64 x.can.tt):=jx.cell 5
   have heq:=eql_pas y x
   clear hc jx
   by_cases hxy : y=x
   ·have hd:decide (y=x)=true:=decide_eq_true hxy
    have HM:Hid (x∈l):=Lib.hid (hxy ▸ hmem)
    have HBX:=Lib.hid (Ext.trans HB.out hX)
    rw [hd] at heq
    clear hstep hmem hxy hd HN
    go_wp2
    go_quiet (fail)
    go_wp2
    go_ret
    exact ⟨by rw [decide_eq_true HM.out]; rfl,Ext.trans HBX.out (below_drewN (Below.refl _ _) _)⟩
   ·have hd:decide (y=x)=false:=decide_eq_false hxy
    have HS:=Lib.hid (hstep hxy)
    rw [hd] at heq
    clear hstep hmem hxy hd HN
    go_wp2
    go_quiet (fail)
    go_wp2
    go_roundw
    case rel=>exact ⟨k+1,by omega,by go_num,HS,Ext.trans hX (below_drewN (Below.refl _ _) _)⟩
    case measure=>simp [intOf]; omega
  ·have HM:Hid (x∉l):=Lib.hid (by have h:=HN.out; rwa [List.take_of_length_le (by rw [HL.out]; omega)] at h)
   have HBX:=Lib.hid (Ext.trans HB.out hX)
   clear HN hX
   go_wp2
   go_ret
   exact ⟨by rw [decide_eq_false HM.out]; rfl,HBX.out⟩
end Go.Proofs.YtjidhhfabfnhnaaGreat
namespace Go.Proofs.YtjidhhfabfnhnaaGreat
open Go.RowKit
attribute [local go_sem] Oper.semAt_some
def pcE (R:Option (List Pas)) : Int:=match R with
 | none=>90
 | some _=>0
def chE (R:Option (List Pas × List Pas)) : Int:=match R with
 | none=>360
 | some _=>0
theorem pc_form {R:Option (List Pas)} {w:World} {e:Ending} {w' : World} (h:PassesRet R w e w') (hR:∀ o,R=some o→o.length≤64) :
  ∃ A n c,e=.returned (.tuple #[.slice A n c,.int .i64 (pcE R)])∧RA pasCells 6 w' w'.heap.size A n c (R.getD [])∧Ext w w':=by
 cases R with
 | none=>exact ⟨none,0,0,h.1,RA.of_own (base:=0) (e:=0) (World.ownsRow_nil _ _ _ _) rfl (by omega),h.2⟩
 | some o =>
  obtain ⟨v,rfl,hown,hx⟩:=h
  obtain ⟨A,c,rfl,_,_⟩:=own_slice hown
  have:=hR o rfl
  exact ⟨A,_,c,rfl,RA.of_own hown rfl (by omega),hx⟩
theorem ch_form {R:Option (List Pas × List Pas)} {w:World} {e:Ending} {w' : World} (h:ChRet R w e w') :
  ∃ A n c B m d,e=.returned (.tuple #[.slice A n c,.slice B m d,.int .i64 (chE R)])∧RA pasCells 6 w' w'.heap.size A n c ((R.map (·.1)).getD [])∧RA pasCells 6 w' w'.heap.size B m d ((R.map (·.2)).getD [])∧Ext w w':=by
 cases R with
 | none=>exact ⟨none,0,0,none,0,0,h.1,RA.of_own (base:=0) (e:=0) (World.ownsRow_nil _ _ _ _) rfl (by omega),RA.of_own (base:=0) (e:=0) (World.ownsRow_nil _ _ _ _) rfl (by omega),h.2⟩
 | some o =>
  obtain ⟨⟨A,c,B,d,rfl,h1,h2⟩,hx⟩:=h
  exact ⟨A,_,c,B,_,d,rfl,h1,h2,hx⟩
def chM (a b:Option (List Pas)) : Option (List Pas × List Pas):=match a,b with
 | some a,some b=>some (withoutP a b,withoutP b a)
 | _,_=>none
theorem changes_eq (S:List St) (ST:List Stn) (l:List Upd) (sp:Spl) (x y:Int) : changesE S ST l sp x y=chM (passesE S ST l sp x) (passesE S ST l sp y):=rfl
theorem any_take {α:Type} (q:α→Bool) (l:List α) (j:Nat) (h:j < l.length) : (l.take (j+1)).any q=((l.take j).any q || q l[j]):=by
 rw [List.take_succ_eq_append_getElem h,List.any_append]
 simp
set_option maxRecDepth 100000 in
set_option maxHeartbeats 8000000 in
theorem exact_walk (c:Cas) (first after:Int) (w:World) (hc:CasR w c) (bf:I64ok first) (ba:I64ok after) :
  Calls Tryz.prog 9 #[casV c,.int .i64 first,.int .i64 after] w (Tru w):=by
 have HMD:Hid (∀ W,Ext w W→Calls Tryz.prog 11 #[.agg #[.slice c.xa c.xn c.xc,.slice c.ya c.yn c.yc,.slice c.za c.zn c.zc,.slice c.ua c.un c.uc,.int .i64 c.fr,.int .i64 c.lo]] W (MadRet c W)):=Lib.hid (fun W hx=>made36_any c W (hc.ext hx))
 have hfb:=frC_bd c
 have heb:=endC_bd c
 obtain ⟨S,hS⟩ : ∃ S,S=satsC c:=⟨_,rfl⟩
 obtain ⟨ST,hST⟩ : ∃ S,S=stnsC c:=⟨_,rfl⟩
 obtain ⟨US,hUS⟩ : ∃ S,S=updsC c:=⟨_,rfl⟩
 obtain ⟨fz,hf0⟩ : ∃ S,S=frC c:=⟨_,rfl⟩
 obtain ⟨ez,he0⟩ : ∃ S,S=endC c:=⟨_,rfl⟩
 rw [← hf0] at hfb heb
 rw [← he0] at heb
 obtain ⟨hfb1,hfb2⟩:=hfb
 obtain ⟨heb1,heb2⟩:=heb
 have hmr:∀ W e W',MadRet c W e W'→∃ A1 n1 c1 A2 n2 c2 A3 n3 c3,e=.returned (.tuple #[.slice A1 n1 c1,.slice A2 n2 c2,.slice A3 n3 c3,.agg #[.int .i64 fz,.int .i64 ez]])∧RA satCells 21 W' W'.heap.size A1 n1 c1 S∧RA stnCells 6 W' W'.heap.size A2 n2 c2 ST∧RA updCells 10 W' W'.heap.size A3 n3 c3 US∧(A3=none→n3=0∧c3=0)∧Ext W W':=by rw [hS,hST,hUS,hf0,he0]; exact fun _ _ _ h=>h
 have HMR:=Lib.hid hmr
 have HS:=Lib.hid hS
 have HST:=Lib.hid hST
 have HUS:=Lib.hid hUS
 clear hmr hS hST hUS hf0 he0
 unfold casV
 go_enter Tryz.func9,Tryz.ntmps9
 go_wp2_with fail
 have HB0:Ext w (w.alloc (.cells #[.slice c.xa c.xn c.xc,.slice c.ya c.yn c.yc,.slice c.za c.zn c.zc,.slice c.ua c.un c.uc,.int .i64 c.fr,.int .i64 c.lo] 25)):=bl_alloc (Below.refl _ _) _
 have JC:Blk (w.alloc (.cells #[.slice c.xa c.xn c.xc,.slice c.ya c.yn c.yc,.slice c.za c.zn c.zc,.slice c.ua c.un c.uc,.int .i64 c.fr,.int .i64 c.lo] 25)) w.heap.size 25 #[.slice c.xa c.xn c.xc,.slice c.ya c.yn c.yc,.slice c.za c.zn c.zc,.slice c.ua c.un c.uc,.int .i64 c.fr,.int .i64 c.lo]:=Blk.new _ _ _
 obtain ⟨gc,hg⟩ : ∃ g,g=w.heap.size:=⟨_,rfl⟩
 rw [← hg] at JC ⊢
 clear hg
 generalize w.alloc (.cells #[.slice c.xa c.xn c.xc,.slice c.ya c.yn c.yc,.slice c.za c.zn c.zc,.slice c.ua c.un c.uc,.int .i64 c.fr,.int .i64 c.lo] 25)=W0 at JC HB0 ⊢
 refine (sane36_any _).mono ?_
 rintro e W1 ⟨rfl,hx⟩
 have hB:=HB0
 clear HB0
 have JC:=JC.ext hx
 have hB:=Ext.trans hB hx
 clear hx
 have k0:W1.cell? ⟨gc,0,none⟩=some (.slice c.xa c.xn c.xc):=JC.cell 0
 have k1:W1.cell? ⟨gc,1,none⟩=some (.slice c.ya c.yn c.yc):=JC.cell 1
 have k2:W1.cell? ⟨gc,2,none⟩=some (.slice c.za c.zn c.zc):=JC.cell 2
 have k3:W1.cell? ⟨gc,3,none⟩=some (.slice c.ua c.un c.uc):=JC.cell 3
 have k4:W1.cell? ⟨gc,4,none⟩=some (.int .i64 c.fr):=JC.cell 4
 have k5:W1.cell? ⟨gc,5,none⟩=some (.int .i64 c.lo):=JC.cell 5
 go_wp2_with fail
 refine (HMD.out _ hB).mono ?_
 intro e W2 hm
 obtain ⟨A1,n1,c1,A2,n2,c2,A3,n3,c3,rfl,RS,RT,RU,hnil,hx⟩:=HMR.out _ _ _ hm
 clear hm k0 k1 k2 k3 k4 k5
 have HNIL:=Lib.hid hnil
 clear hnil
 have JC:=JC.ext hx
 have hB:=Ext.trans hB hx
 clear hx
 clear JC
 go_upto_region 4 with (fail)
 have hx:Ext W2 (W2.alloc (.cells #[.int .i64 fz,.int .i64 ez] 32)):=bl_alloc (Below.refl _ _) _
 have JS:Blk (W2.alloc (.cells #[.int .i64 fz,.int .i64 ez] 32)) W2.heap.size 32 #[.int .i64 fz,.int .i64 ez]:=Blk.new _ _ _
 obtain ⟨gs,hg⟩ : ∃ g,g=W2.heap.size:=⟨_,rfl⟩
 rw [← hg] at JS ⊢
 clear hg
 generalize W2.alloc (.cells #[.int .i64 fz,.int .i64 ez] 32)=W3 at JS hx ⊢
 have hB:=Ext.trans hB hx
 have RS:=ra_ext RS hx
 have RT:=ra_ext RT hx
 have RU:=ra_ext RU hx
 clear hx
 have hn1:n1≤2:=by have h1:=RS.len; have h2:=satsC_len c; rw [← HS.out] at h2; omega
 have hn3:n3≤6:=by have h1:=RU.len; have h2:=updsP_len (satsC c) (frC c) c.u; rw [HUS.out] at h1; unfold updsC at h1; omega
 have hul:=RU.len
 have hs1:∀ s∈S,satOK s=true:=by rw [HS.out]; exact satsC_ok c
 have hs2:satsOK S=true:=by rw [HS.out]; exact sats_okP c
 have hs3:stnsOK ST=true:=by rw [HST.out]; exact stns_okP c
 have P1:=fun w=>lpick36_any first 300 w bf.1 bf.2 (by omega) (by omega)
 have q1:=pickI_bd first 300 (by omega)
 generalize pickI first 300=p1 at P1 q1
 obtain ⟨q1a,q1b⟩:=q1
 have HP1:=Lib.hid P1
 clear P1
 have P2:=fun w=>lpick36_any after 300 w ba.1 ba.2 (by omega) (by omega)
 have q2:=pickI_bd after 300 (by omega)
 generalize pickI after 300=p2 at P2 q2
 obtain ⟨q2a,q2b⟩:=q2
 have HP2:=Lib.hid P2
 clear P2
 obtain ⟨mn,hmn⟩ : ∃ z,(if p2 < p1 then p2 else p1)=z:=⟨_,rfl⟩
 obtain ⟨mx,hmx⟩ : ∃ z,(if p1 < p2 then p2 else p1)=z:=⟨_,rfl⟩
 have hmn1:0≤mn:=by rw [← hmn]; split <;> omega
 have hmn2:mn≤mx:=by rw [← hmn,← hmx]; split <;> split <;> omega
 have hmx1:mx < 300:=by rw [← hmx]; split <;> omega
 have HMN:=Lib.hid hmn
 have HMX:=Lib.hid hmx
 have HMX2:Hid ((if p2 < p1 then p1 else p2)=mx):=Lib.hid (by rw [← hmx]; split <;> split <;> omega)
 clear hmn hmx
 have s0:W3.cell? ⟨gs,0,none⟩=some (.int .i64 fz):=JS.cell 0
 have u1_:IntKind.i64.wrap (fz+mn)=fz+mn:=IntWalk.i64_in _ (by omega)
 refine wp_region_obl 8 (fun ix vals v w1=>match ix with | 0=>v=.pointer (some ⟨gs,0,none⟩) | 1=>v=.int .i64 fz | 2=>v=.int .i64 first | 3=>v=.int .i64 p1 | 4=>v=.int .i64 after | 5=>v=.int .i64 p2 | 6=>v=.int .i64 mn | _=>v=.int .i64 (fz+mn)) (by kernel_rfl) (by kernel_rfl) ?_ ?_ ?_ ?_
 ·intro ix vals v w1 w2 hi hr hx; exact hr
 ·intro ix vals vals_ v w1 hi hv hr
  exact hr
 ·refine ⟨?_,?_,?_,?_,?_,?_,?_,?_,trivial⟩
  ·intro vals w1 hx hd ha
   clear hd ha
   simp only [Lf]
   go_wp2
   exact q_
  ·intro vals w1 hx hd ha
   have e0:vals 0=.pointer (some ⟨gs,0,none⟩):=hd 0 (by decide)
   clear hd ha
   simp only [Lf,dstAt,Act.put,FR_,e0]
   clear e0
   have s0:=ext_cell hx s0
   go_wp2
   exact q_
  ·intro vals w1 hx hd ha
   clear hd ha
   simp only [Lf,dstAt,Act.put,FR_]
   go_wp2
   exact q_
  ·intro vals w1 hx hd ha
   have e2:vals 2=.int .i64 first:=hd 2 (by decide)
   clear hd ha
   simp only [Lf,dstAt,Act.put,FR_,e2]
   clear e2
   go_wp2_with fail
   refine (HP1.out _).mono ?_
   rintro e w2 ⟨rfl,rfl⟩
   go_wp2
   exact q_
  ·intro vals w1 hx hd ha
   clear hd ha
   simp only [Lf,dstAt,Act.put,FR_]
   go_wp2
   exact q_
  ·intro vals w1 hx hd ha
   have e3:vals 3=.int .i64 p1:=hd 3 (by decide)
   have e4:vals 4=.int .i64 after:=hd 4 (by decide)
   clear hd ha
   simp only [Lf,dstAt,Act.put,FR_,e3]
   simp only [e4]
   clear e3 e4
   go_wp2_with fail
   refine (HP2.out _).mono ?_
   rintro e w2 ⟨rfl,rfl⟩
   go_wp2
   exact q_
  ·intro vals w1 hx hd ha
   have e3:vals 3=.int .i64 p1:=hd 3 (by decide)
   have e5:vals 5=.int .i64 p2:=hd 5 (by decide)
   clear hd ha
   simp only [Lf,dstAt,Act.put,FR_,e3,e5]
   clear e3 e5
   have hmn:=HMN.out
   go_wp2
   exact q_
  ·intro vals w1 hx hd ha
   have e1:vals 1=.int .i64 fz:=hd 1 (by decide)
   have e6:vals 6=.int .i64 mn:=hd 6 (by decide)
   clear hd ha
   simp only [Lf,dstAt,Act.put,FR_,e1,e6]
   clear e1 e6
   go_wp2
   exact q_
 intro vals W4 hx hf
 have e7:vals 7=.int .i64 (fz+mn):=hf 7 (by omega)
 have hx:=hx.undrew
 clear hf s0 u1_
 have hB:=Ext.trans hB hx
 have RS:=ra_ext RS hx
 have RT:=ra_ext RT hx
 have RU:=ra_ext RU hx
 have JS:=JS.ext hx
 clear hx
 refine tail1 8 _ (by kernel_rfl) (by kernel_rfl) rfl ?_
 simp only [Lf,dstAt,Act.put,FR_]
 rw [e7]
 clear e7
 go_upto_region 5 with (fail)
 have s0:W4.cell? ⟨gs,0,none⟩=some (.int .i64 fz):=JS.cell 0
 have u1_:IntKind.i64.wrap (fz+mx)=fz+mx:=IntWalk.i64_in _ (by omega)
 refine wp_region_obl 8 (fun ix vals v w1=>match ix with | 0=>v=.pointer (some ⟨gs,0,none⟩) | 1=>v=.int .i64 fz | 2=>v=.int .i64 first | 3=>v=.int .i64 p1 | 4=>v=.int .i64 after | 5=>v=.int .i64 p2 | 6=>v=.int .i64 mx | _=>v=.int .i64 (fz+mx)) (by kernel_rfl) (by kernel_rfl) ?_ ?_ ?_ ?_
 ·intro ix vals v w1 w2 hi hr hx; exact hr
 ·intro ix vals vals_ v w1 hi hv hr
  exact hr
 ·refine ⟨?_,?_,?_,?_,?_,?_,?_,?_,trivial⟩
  ·intro vals w1 hx hd ha
   clear hd ha
   simp only [Lf]
   go_wp2
   exact q_
  ·intro vals w1 hx hd ha
   have e0:vals 0=.pointer (some ⟨gs,0,none⟩):=hd 0 (by decide)
   clear hd ha
   simp only [Lf,dstAt,Act.put,FR_,e0]
   clear e0
   have s0:=ext_cell hx s0
   go_wp2
   exact q_
  ·intro vals w1 hx hd ha
   clear hd ha
   simp only [Lf,dstAt,Act.put,FR_]
   go_wp2
   exact q_
  ·intro vals w1 hx hd ha
   have e2:vals 2=.int .i64 first:=hd 2 (by decide)
   clear hd ha
   simp only [Lf,dstAt,Act.put,FR_,e2]
   clear e2
   go_wp2_with fail
   refine (HP1.out _).mono ?_
   rintro e w2 ⟨rfl,rfl⟩
   go_wp2
   exact q_
  ·intro vals w1 hx hd ha
   clear hd ha
   simp only [Lf,dstAt,Act.put,FR_]
   go_wp2
   exact q_
  ·intro vals w1 hx hd ha
   have e3:vals 3=.int .i64 p1:=hd 3 (by decide)
   have e4:vals 4=.int .i64 after:=hd 4 (by decide)
   clear hd ha
   simp only [Lf,dstAt,Act.put,FR_,e3]
   simp only [e4]
   clear e3 e4
   go_wp2_with fail
   refine (HP2.out _).mono ?_
   rintro e w2 ⟨rfl,rfl⟩
   go_wp2
   exact q_
  ·intro vals w1 hx hd ha
   have e3:vals 3=.int .i64 p1:=hd 3 (by decide)
   have e5:vals 5=.int .i64 p2:=hd 5 (by decide)
   clear hd ha
   simp only [Lf,dstAt,Act.put,FR_,e3,e5]
   clear e3 e5
   have hmx:=HMX.out
   have hmx2:=HMX2.out
   go_wp2
   exact q_
  ·intro vals w1 hx hd ha
   have e1:vals 1=.int .i64 fz:=hd 1 (by decide)
   have e6:vals 6=.int .i64 mx:=hd 6 (by decide)
   clear hd ha
   simp only [Lf,dstAt,Act.put,FR_,e1,e6]
   clear e1 e6
   go_wp2
   exact q_
 intro vals W5 hx hf
 have e7:vals 7=.int .i64 (fz+mx):=hf 7 (by omega)
 have hx:=hx.undrew
 clear hf s0 u1_
 have hB:=Ext.trans hB hx
 have RS:=ra_ext RS hx
 have RT:=ra_ext RT hx
 have RU:=ra_ext RU hx
 have JS:=JS.ext hx
 clear hx
 refine tail1 8 _ (by kernel_rfl) (by kernel_rfl) rfl ?_
 simp only [Lf,dstAt,Act.put,FR_]
 rw [e7]
 clear e7
 obtain ⟨xx,hxx⟩ : ∃ k,k=fz+mn:=⟨_,rfl⟩
 obtain ⟨yy,hyy⟩ : ∃ k,k=fz+mx:=⟨_,rfl⟩
 rw [← hxx,← hyy]
 have hxy:xx≤yy:=by omega
 clear hxx hyy
 have hE:Ext W5 W5:=Below.refl _ _
 obtain ⟨R1,hR1⟩ : ∃ R,R=passesE S ST US ⟨fz,ez⟩ xx:=⟨_,rfl⟩
 obtain ⟨R2,hR2⟩ : ∃ R,R=passesE S ST US ⟨fz,ez⟩ yy:=⟨_,rfl⟩
 obtain ⟨R3,hR3⟩ : ∃ R,R=passesP S ST ⟨fz,ez⟩:=⟨_,rfl⟩
 obtain ⟨RC,hRC⟩ : ∃ R,R=changesE S ST US ⟨fz,ez⟩ xx yy:=⟨_,rfl⟩
 have hRC2:RC=chM R1 R2:=by rw [hRC,hR1,hR2]; exact changes_eq _ _ _ _ _ _
 have hnil:passesE S ST [] ⟨fz,ez⟩ xx=R3:=by rw [hR3]; exact passesE_nil hs2 hs1 hs3 hfb1 heb1 (by show ez≤1000000; omega) (by show ez - fz≤1440; omega)
 have HPX:Hid (∀ W,Ext W5 W→Calls Tryz.prog 15 #[.slice A1 n1 c1,.slice A2 n2 c2,.slice A3 n3 c3,.agg #[.int .i64 fz,.int .i64 ez],.int .i64 xx] W (EPRet R1 W)):=Lib.hid (fun W hx=>by rw [hR1]; exact epasses_any S ST US A1 A2 A3 n1 c1 n2 c2 n3 c3 fz ez xx W (ra_ext RS hx) (ra_ext RT hx) (ra_ext RU hx))
 have HPY:Hid (∀ W,Ext W5 W→Calls Tryz.prog 15 #[.slice A1 n1 c1,.slice A2 n2 c2,.slice A3 n3 c3,.agg #[.int .i64 fz,.int .i64 ez],.int .i64 yy] W (EPRet R2 W)):=Lib.hid (fun W hx=>by rw [hR2]; exact epasses_any S ST US A1 A2 A3 n1 c1 n2 c2 n3 c3 fz ez yy W (ra_ext RS hx) (ra_ext RT hx) (ra_ext RU hx))
 have HPN:Hid (∀ W,Ext W5 W→Calls Tryz.prog 15 #[.slice A1 n1 c1,.slice A2 n2 c2,.slice none 0 0,.agg #[.int .i64 fz,.int .i64 ez],.int .i64 xx] W (EPRet R3 W)):=Lib.hid (fun W hx=>by rw [← hnil]; exact epasses_any S ST [] A1 A2 none n1 c1 n2 c2 0 0 fz ez xx W (ra_ext RS hx) (ra_ext RT hx) (ra_nil W))
 have HPC:Hid (∀ W,Ext W5 W→Calls Tryz.prog 35 #[.slice A1 n1 c1,.slice A2 n2 c2,.agg #[.int .i64 fz,.int .i64 ez]] W (PassesRet R3 W)):=Lib.hid (fun W hx=>by rw [hR3]; exact Passes_all S ST A1 A2 n1 c1 n2 c2 fz ez W (ra_ext RS hx) (ra_ext RT hx))
 have HCG:Hid (∀ W,Ext W5 W→Calls Tryz.prog 31 #[.slice A1 n1 c1,.slice A2 n2 c2,.slice A3 n3 c3,.agg #[.int .i64 fz,.int .i64 ez],.int .i64 xx,.int .i64 yy] W (ChRet RC W)):=Lib.hid (fun W hx=>by rw [hRC]; exact changes_any S ST US A1 A2 A3 n1 c1 n2 c2 n3 c3 fz ez xx yy W (ra_ext RS hx) (ra_ext RT hx) (ra_ext RU hx))
 have HL1:Hid (∀ o,R1=some o→o.length≤64):=Lib.hid (fun o h=>passesE_le (hR1.symm.trans h))
 have HL2:Hid (∀ o,R2=some o→o.length≤64):=Lib.hid (fun o h=>passesE_le (hR2.symm.trans h))
 have HL3:Hid (∀ o,R3=some o→o.length≤64):=Lib.hid (fun o h=>passes_le (hR3.symm.trans h))
 have HNW:Hid (∀ a b,R1=some a→R2=some b→∀ id,US.any (newsU id xx yy)=false→∀ p : Pas,p.sat=id→(p∈a ↔ p∈b)):=Lib.hid (fun a b ha hb id h p hp=>exact_news hxy (hR1.symm.trans ha) (hR2.symm.trans hb) h hp)
 have HRC:=Lib.hid hRC2
 clear hR1 hR2 hR3 hRC hRC2 hnil hs1 hs2 hs3
 have t0:W5.cell? ⟨gs,0,none⟩=some (.int .i64 fz):=JS.cell 0
 have t1:W5.cell? ⟨gs,1,none⟩=some (.int .i64 ez):=JS.cell 1
 go_wp2_with fail
 refine (HPX.out _ hE).mono ?_
 intro e W6 hm
 obtain ⟨A4,n4,c4,rfl,RA1,hn4,hx⟩:=ep_form hm HL1.out
 clear hm t0 t1
 obtain ⟨er1,her1⟩ : ∃ z,z=epE R1:=⟨_,rfl⟩
 have HER1:=Lib.hid her1
 rw [← her1]
 clear her1
 have hB:=Ext.trans hB hx
 have RS:=ra_ext RS hx
 have RT:=ra_ext RT hx
 have RU:=ra_ext RU hx
 have JS:=JS.ext hx
 have hE:=Ext.trans hE hx
 clear hx
 have t0:W6.cell? ⟨gs,0,none⟩=some (.int .i64 fz):=JS.cell 0
 have t1:W6.cell? ⟨gs,1,none⟩=some (.int .i64 ez):=JS.cell 1
 go_wp2_with fail
 refine (HPY.out _ hE).mono ?_
 intro e W7 hm
 obtain ⟨A5,n5,c5,rfl,RB1,hn5,hx⟩:=ep_form hm HL2.out
 clear hm t0 t1
 obtain ⟨er2,her2⟩ : ∃ z,z=epE R2:=⟨_,rfl⟩
 have HER2:=Lib.hid her2
 rw [← her2]
 clear her2
 have hB:=Ext.trans hB hx
 have RS:=ra_ext RS hx
 have RT:=ra_ext RT hx
 have RU:=ra_ext RU hx
 have JS:=JS.ext hx
 have hE:=Ext.trans hE hx
 have RA1:=ra_ext RA1 hx
 clear hx
 have t0:W7.cell? ⟨gs,0,none⟩=some (.int .i64 fz):=JS.cell 0
 have t1:W7.cell? ⟨gs,1,none⟩=some (.int .i64 ez):=JS.cell 1
 go_wp2_with fail
 refine (HCG.out _ hE).mono ?_
 intro e W8 hm
 obtain ⟨A6,n6,c6,A7,n7,c7,rfl,RG1,RD1,hx⟩:=ch_form hm
 clear hm t0 t1
 obtain ⟨er3,her3⟩ : ∃ z,z=chE RC:=⟨_,rfl⟩
 have HER3:=Lib.hid her3
 rw [← her3]
 clear her3
 have hB:=Ext.trans hB hx
 have RS:=ra_ext RS hx
 have RT:=ra_ext RT hx
 have RU:=ra_ext RU hx
 have JS:=JS.ext hx
 have hE:=Ext.trans hE hx
 have RA1:=ra_ext RA1 hx
 have RB1:=ra_ext RB1 hx
 clear hx
 have t0:W8.cell? ⟨gs,0,none⟩=some (.int .i64 fz):=JS.cell 0
 have t1:W8.cell? ⟨gs,1,none⟩=some (.int .i64 ez):=JS.cell 1
 go_wp2_with fail
 refine (HPN.out _ hE).mono ?_
 intro e W9 hm
 obtain ⟨A8,n8,c8,rfl,RN1,hn8,hx⟩:=ep_form hm HL3.out
 clear hm t0 t1
 obtain ⟨er4,her4⟩ : ∃ z,z=epE R3:=⟨_,rfl⟩
 have HER4:=Lib.hid her4
 rw [← her4]
 clear her4
 have hB:=Ext.trans hB hx
 have RS:=ra_ext RS hx
 have RT:=ra_ext RT hx
 have RU:=ra_ext RU hx
 have JS:=JS.ext hx
 have hE:=Ext.trans hE hx
 have RA1:=ra_ext RA1 hx
 have RB1:=ra_ext RB1 hx
 have RG1:=ra_ext RG1 hx
 have RD1:=ra_ext RD1 hx
 clear hx
 have t0:W9.cell? ⟨gs,0,none⟩=some (.int .i64 fz):=JS.cell 0
 have t1:W9.cell? ⟨gs,1,none⟩=some (.int .i64 ez):=JS.cell 1
 go_wp2_with fail
 refine (HPC.out _ hE).mono ?_
 intro e W10 hm
 obtain ⟨A9,n9,c9,rfl,RO1,hx⟩:=pc_form hm HL3.out
 clear hm t0 t1
 obtain ⟨er5,her5⟩ : ∃ z,z=pcE R3:=⟨_,rfl⟩
 have HER5:=Lib.hid her5
 rw [← her5]
 clear her5
 have hB:=Ext.trans hB hx
 have RS:=ra_ext RS hx
 have RT:=ra_ext RT hx
 have RU:=ra_ext RU hx
 have JS:=JS.ext hx
 have hE:=Ext.trans hE hx
 have RA1:=ra_ext RA1 hx
 have RB1:=ra_ext RB1 hx
 have RG1:=ra_ext RG1 hx
 have RD1:=ra_ext RD1 hx
 have RN1:=ra_ext RN1 hx
 clear hx
 obtain ⟨qq,hq1,hq2⟩ : ∃ q,(er4 == 0)=q∧(er5 == 0)=q:=by
  refine ⟨_,rfl,?_⟩
  rw [HER4.out,HER5.out]
  cases R3 <;> rfl
 have hqq:(qq != qq)=false:=by cases qq <;> rfl
 have hsm:=samePas_any A8 A9 n8 n9 c8 c9 _ _ W10 RN1 RO1
 rw [decide_eq_true rfl] at hsm
 have HSM:=Lib.hid hsm
 clear hsm
 go_wp2_with fail
 refine HSM.out.mono ?_
 rintro e W11 ⟨rfl,hx⟩
 clear hq1 hq2 hqq HSM HPX HPY HPN HPC HCG
 have hB:=Ext.trans hB hx
 have RS:=ra_ext RS hx
 have RT:=ra_ext RT hx
 have RU:=ra_ext RU hx
 have JS:=JS.ext hx
 have hE:=Ext.trans hE hx
 have RA1:=ra_ext RA1 hx
 have RB1:=ra_ext RB1 hx
 have RG1:=ra_ext RG1 hx
 have RD1:=ra_ext RD1 hx
 have RN1:=ra_ext RN1 hx
 have RO1:=ra_ext RO1 hx
 clear hx
 clear RN1 RO1
 have HB:=Lib.hid hB
 have HRA:=Lib.hid RA1
 have HRB:=Lib.hid RB1
 have HRG:=Lib.hid RG1
 have HRD:=Lib.hid RD1
 have HRS:=Lib.hid RS
 have HRU:=Lib.hid RU
 clear hB RA1 RB1 RG1 RD1 RS RU RT JS hE
 cases R1 with
 | none =>
  have HC:Hid (er3=360):=Lib.hid (by rw [HER3.out,HRC.out]; rfl)
  have HD:Hid (er1=360):=Lib.hid (by rw [HER1.out]; rfl)
  rw [HC.out,HD.out]
  clear HRC HNW HL1 HL2
  go_wp2
  go_ret
  exact ⟨rfl,HB.out⟩
 | some a =>
  cases R2 with
  | none =>
   have HC:Hid (er3=360):=Lib.hid (by rw [HER3.out,HRC.out]; rfl)
   have HD:Hid (er2=360):=Lib.hid (by rw [HER2.out]; rfl)
   have HD1:Hid (er1=0):=Lib.hid (by rw [HER1.out]; rfl)
   rw [HC.out,HD.out,HD1.out]
   clear HRC HNW HL1 HL2
   go_wp2
   go_ret
   exact ⟨rfl,HB.out⟩
  | some b =>
   have hrc:RC=some (withoutP a b,withoutP b a):=HRC.out
   have HC:Hid (er3=0):=Lib.hid (by rw [HER3.out,hrc]; rfl)
   have HD:Hid (er2=0):=Lib.hid (by rw [HER2.out]; rfl)
   have HD1:Hid (er1=0):=Lib.hid (by rw [HER1.out]; rfl)
   rw [HC.out,HD.out,HD1.out]
   obtain ⟨G,hG⟩ : ∃ G,G=withoutP a b:=⟨_,rfl⟩
   obtain ⟨D,hD⟩ : ∃ D,D=withoutP b a:=⟨_,rfl⟩
   have Hg:Hid (RA pasCells 6 W11 W11.heap.size A6 n6 c6 G):=Lib.hid (by have h:=HRG.out; rw [hrc] at h; rw [hG]; exact h)
   have Hd:Hid (RA pasCells 6 W11 W11.heap.size A7 n7 c7 D):=Lib.hid (by have h:=HRD.out; rw [hrc] at h; rw [hD]; exact h)
   have Ha:Hid (RA pasCells 6 W11 W11.heap.size A4 n4 c4 a):=Lib.hid HRA.out
   have Hb:Hid (RA pasCells 6 W11 W11.heap.size A5 n5 c5 b):=Lib.hid HRB.out
   have HMG:Hid (∀ p,p∈G ↔ p∈a∧p∉b):=Lib.hid (fun p=>by rw [hG]; exact mem_without)
   have Hm:Hid (∀ p,p∈D ↔ p∈b∧p∉a):=Lib.hid (fun p=>by rw [hD]; exact mem_without)
   have Hn:Hid (∀ id,US.any (newsU id xx yy)=false→∀ p : Pas,p.sat=id→(p∈a ↔ p∈b)):=Lib.hid (HNW.out a b rfl rfl)
   have ln6:=Hg.out.le
   have ln7:=Hd.out.le
   have HEW:Hid (Ext W11 W11):=Lib.hid (Below.refl _ _)
   clear hrc hG hD HRC HNW HRG HRD HRA HRB HL1 HL2 HL3 HC HD HD1 HER1 HER2 HER3
   go_wp2
   go_loopw [24] (fun i wr=>∃ k : Nat,k≤n1∧i=.int .i64 k∧Ext W11 wr) (fun i _=>n1 - (intOf i).toNat)
   case atStart=>exact ⟨0,Nat.zero_le _,rfl,HEW.out⟩
   case round =>
    obtain ⟨k,hk,rfl,hX⟩:=hrel
    by_cases hkn : k < n1
    ·have hkz:(k:Int) < (n1:Int):=by omega
     obtain ⟨bs,os,hzs,hAs,hbs,hcs⟩:=(HRS.out.below hX).at_ sat_len hkn
     subst hAs
     have zz0:wr.cell? ⟨bs,os+k * 21,none⟩=some (.int .i64 S[k].id):=hcs 0 (by simp)
     generalize S[k].id=sid at zz0
     have HCS:Hid (∀ W,Ext wr W→W.cell? ⟨bs,os+k * 21,none⟩=some (.int .i64 sid)):=Lib.hid (fun W hx=>ext_cell hx zz0)
     have HX0:=Lib.hid hX
     clear hcs hzs hbs zz0 hX
     obtain ⟨V0,hV0⟩ : ∃ V,V=wr:=⟨_,rfl⟩
     rw [← hV0] at HCS HX0 ⊢
     clear hV0
     go_wp2
     go_loopw [25,26] (fun nw m wr=>∃ j : Nat,j≤n3∧nw=.bool ((US.take j).any (newsU sid xx yy))∧m=.int .i64 j∧Ext V0 wr) (fun _ m _=>n3 - (intOf m).toNat)
     case atStart=>exact ⟨0,Nat.zero_le _,by simp,rfl,Below.refl _ _⟩
     case round =>
      obtain ⟨j,hj,rfl,rfl,hY⟩:=hrel
      by_cases hjn : j < n3
      ·have hjz:(j:Int) < (n3:Int):=by omega
       obtain ⟨bu,ou,hzu,hAu,hbu,hcu⟩:=(HRU.out.below (Ext.trans HX0.out hY)).at_ upd_len hjn
       subst hAu
       have hat:=any_take (newsU sid xx yy) US j hzu
       generalize US[j]=u at hcu hat
       have y0:wr.cell? ⟨bu,ou+j * 10,none⟩=some (.int .i64 u.sat):=hcu 0 (by simp)
       have y2:wr.cell? ⟨bu,ou+j * 10+2,none⟩=some (.int .i64 u.kn):=hcu 2 (by simp)
       have z0:=HCS.out _ hY
       have hnu:newsU sid xx yy u=(u.sat == sid && decide (xx < u.kn) && decide (u.kn≤yy)):=rfl
       rw [hnu] at hat
       generalize u.sat=us at hat y0
       generalize u.kn=uk at hat y2
       generalize (US.take j).any (newsU sid xx yy)=nw at hat ⊢
       have HAT:=Lib.hid hat
       have HY:=Lib.hid hY
       clear hcu hzu hbu hnu hat hY
       go_upto_region 24 with (fail)
       cases nw with
       | true =>
        have HAT2:=Lib.hid (HAT.out.trans (by rfl:_=true))
        go_quiet (fail)
        go_wp2
        go_roundw
        case rel=>exact ⟨j+1,by omega,by rw [HAT2.out],by go_num,Ext.trans HY.out (below_drewN (Below.refl _ _) _)⟩
        case measure=>simp [intOf]; omega
       | false =>
        by_cases hse : us=sid
        ·have HSE:Hid ((us == sid)=true):=Lib.hid (by simp [hse])
         by_cases hgt : xx < uk
         ·have HGT:Hid (xx < uk):=Lib.hid hgt
          have HAT2:=Lib.hid (HAT.out.trans (by rw [HSE.out,decide_eq_true hgt]; rfl : _=decide (uk≤yy)))
          have hse:=HSE.out
          have hgt:=HGT.out
          go_quiet (fail)
          go_wp2
          go_roundw
          case rel=>exact ⟨j+1,by omega,by rw [HAT2.out],by go_num,Ext.trans HY.out (below_drewN (Below.refl _ _) _)⟩
          case measure=>simp [intOf]; omega
         ·have HGT:Hid (¬ xx < uk):=Lib.hid hgt
          have HAT2:=Lib.hid (HAT.out.trans (by rw [HSE.out,decide_eq_false hgt]; rfl : _=false))
          have hse:=HSE.out
          have hgt:=HGT.out
          go_quiet (fail)
          go_wp2
          go_roundw
          case rel=>exact ⟨j+1,by omega,by rw [HAT2.out],by go_num,Ext.trans HY.out (below_drewN (Below.refl _ _) _)⟩
          case measure=>simp [intOf]; omega
        ·have HSE:Hid ((us == sid)=false):=Lib.hid (by simp [hse])
         have HAT2:=Lib.hid (HAT.out.trans (by rw [HSE.out]; rfl : _=false))
         have hse:=HSE.out
         go_quiet (fail)
         go_wp2
         go_roundw
         case rel=>exact ⟨j+1,by omega,by rw [HAT2.out],by go_num,Ext.trans HY.out (below_drewN (Below.refl _ _) _)⟩
         case measure=>simp [intOf]; omega
      ·have hjz:¬ (j:Int) < (n3:Int):=by omega
       have HTK:Hid (US.take j=US):=Lib.hid (List.take_of_length_le (by omega))
       rw [HTK.out]
       have hnf:=Hn.out sid
       generalize US.any (newsU sid xx yy)=nw at hnf ⊢
       have HNF:=Lib.hid hnf
       have HY:=Lib.hid hY
       clear hnf hY
       have hz:Ext wr (wr.alloc (.cells #[.slice A6 n6 c6,.slice A7 n7 c7] 36)):=bl_alloc (Below.refl _ _) _
       have JP:Blk (wr.alloc (.cells #[.slice A6 n6 c6,.slice A7 n7 c7] 36)) wr.heap.size 36 #[.slice A6 n6 c6,.slice A7 n7 c7]:=Blk.new _ _ _
       go_wp2
       generalize wr.heap.size=gp at JP ⊢
       generalize wr.alloc (.cells #[.slice A6 n6 c6,.slice A7 n7 c7] 36)=V1 at JP hz ⊢
       have HX1:=Lib.hid (Ext.trans HX0.out (Ext.trans HY.out hz))
       have HJP:=Lib.hid JP
       have Hc:Hid (∀ W,Ext V1 W→W.cell? ⟨bs,os+k * 21,none⟩=some (.int .i64 sid)):=Lib.hid (fun W hx=>HCS.out W (Ext.trans HY.out (Ext.trans hz hx)))
       clear hz JP HY HCS HTK hjz hjn hj
       go_loopw [172] (fun i wr=>∃ j : Nat,j≤2∧i=.int .i64 j∧Ext V1 wr) (fun i _=>2 - (intOf i).toNat)
       case atStart=>exact ⟨0,by omega,rfl,Below.refl _ _⟩
       case round =>
        obtain ⟨j,hj,rfl,hY⟩:=hrel
        by_cases hj2 : j < 2
        ·have hjz:(j:Int) < 2:=by omega
         have HY:=Lib.hid hY
         obtain ⟨QA,qn,qc,Q,hcell,hra,hQ⟩ : ∃ QA qn qc Q,wr.cell? ⟨gp,j,none⟩=some (.slice QA qn qc)∧RA pasCells 6 wr wr.heap.size QA qn qc Q∧∀ p∈Q,nw=false→p.sat≠sid:=by
          have hd:j=0 ∨ j=1:=by omega
          rcases hd with rfl | rfl
          ·exact ⟨A6,n6,c6,G,(HJP.out.ext HY.out).cell 0,ra_ext Hg.out (Ext.trans HX1.out HY.out),fun p hp h1 h2=>by have h3:=(HMG.out p).1 hp; exact h3.2 (((HNF.out h1) p h2).1 h3.1)⟩
          ·exact ⟨A7,n7,c7,D,(HJP.out.ext HY.out).cell 1,ra_ext Hd.out (Ext.trans HX1.out HY.out),fun p hp h1 h2=>by have h3:=(Hm.out p).1 hp; exact h3.2 (((HNF.out h1) p h2).2 h3.1)⟩
         have hqn:=hra.le
         have HRQ:=Lib.hid hra
         have HQ:=Lib.hid hQ
         clear hra hQ hY
         obtain ⟨V2,hV2⟩ : ∃ V,V=wr:=⟨_,rfl⟩
         rw [← hV2] at hcell HRQ HY ⊢
         clear hV2
         go_wp2
         clear hcell
         go_loopw [29] (fun i wr=>∃ t : Nat,t≤qn∧i=.int .i64 t∧Ext V2 wr) (fun i _=>qn - (intOf i).toNat)
         case atStart=>exact ⟨0,Nat.zero_le _,rfl,Below.refl _ _⟩
         case round =>
          obtain ⟨t,ht,rfl,hZ⟩:=hrel
          by_cases htn : t < qn
          ·have htz:(t:Int) < (qn:Int):=by omega
           obtain ⟨bp,op,hzp,hAp,hbp,hcp⟩:=(HRQ.out.below hZ).at_ pas_len htn
           subst hAp
           have hps:=HQ.out Q[t] (List.getElem_mem _)
           generalize Q[t]=pp at hcp hps
           have y0:wr.cell? ⟨bp,op+t * 6,none⟩=some (.int .i64 pp.sat):=hcp 0 (by simp)
           generalize pp.sat=ps at hps y0
           have z0:=Hc.out wr (Ext.trans HY.out hZ)
           have HPS:=Lib.hid hps
           have HZ:=Lib.hid hZ
           clear hcp hzp hbp hps hZ
           go_upto_region 31 with (fail)
           cases nw with
           | true =>
            go_quiet (fail)
            go_wp2
            go_roundw
            case rel=>exact ⟨t+1,by omega,by go_num,Ext.trans HZ.out (below_drewN (Below.refl _ _) _)⟩
            case measure=>simp [intOf]; omega
           | false =>
            have HPE:Hid ((ps == sid)=false):=Lib.hid (by have h:=HPS.out rfl; simp [h])
            have hpe:=HPE.out
            go_quiet (fail)
            go_wp2
            go_roundw
            case rel=>exact ⟨t+1,by omega,by go_num,Ext.trans HZ.out (below_drewN (Below.refl _ _) _)⟩
            case measure=>simp [intOf]; omega
          ·have htz:¬ (t:Int) < (qn:Int):=by omega
           have HZ:=Lib.hid (Ext.trans HY.out hZ)
           clear hZ
           go_wp2
           go_roundw
           case rel=>exact ⟨j+1,by omega,by go_num,HZ.out⟩
           case measure=>simp [intOf]; omega
        ·have hjz:¬ (j:Int) < 2:=by omega
         have HZ:=Lib.hid (Ext.trans HX1.out hY)
         clear hY
         go_wp2
         go_roundw
         case rel=>exact ⟨k+1,by omega,by go_num,HZ.out⟩
         case measure=>simp [intOf]; omega
    ·have hkz:¬ (k:Int) < (n1:Int):=by omega
     have HX0:=Lib.hid hX
     clear hX
     obtain ⟨V0,hV0⟩ : ∃ V,V=wr:=⟨_,rfl⟩
     rw [← hV0] at HX0 ⊢
     clear hV0
     go_wp2
     clear hkn hkz hk HRS HRU Hn
     go_loopw [30] (fun i wr=>∃ k : Nat,k≤n4∧i=.int .i64 k∧Ext V0 wr) (fun i _=>n4 - (intOf i).toNat)
     case atStart=>exact ⟨0,Nat.zero_le _,rfl,Below.refl _ _⟩
     case round =>
      obtain ⟨k,hk,rfl,hY⟩:=hrel
      by_cases hkn : k < n4
      ·have hkz:(k:Int) < (n4:Int):=by omega
       obtain ⟨bp,op,hzp,hAp,hbp,hcp⟩:=RA.range pas_len (Ha.out.below (Ext.trans HX0.out hY)) hkn
       subst hAp
       have hmem:a[k]∈a:=List.getElem_mem _
       generalize a[k]=y at hcp hmem
       obtain ⟨YX,hYX⟩ : ∃ X,(pasCells y).toArray=X:=⟨_,rfl⟩
       have HYX:=Lib.hid hYX
       have HCP:=Lib.hid hcp
       have HY:=Lib.hid hY
       have HH10:=fun W (hx:Ext V0 W)=>has36_any A6 n6 c6 G y W (ra_ext Hg.out (Ext.trans HX0.out hx))
       rw [hYX] at HH10
       have HH1:=Lib.hid HH10
       clear HH10
       have HH20:=fun W (hx:Ext V0 W)=>has36_any A5 n5 c5 b y W (ra_ext Hb.out (Ext.trans HX0.out hx))
       rw [hYX] at HH20
       have HH2:=Lib.hid HH20
       clear HH20
       obtain ⟨q1,hq1⟩ : ∃ q,q=decide (y∈G):=⟨_,rfl⟩
       obtain ⟨q2,hq2⟩ : ∃ q,q=decide (y∈b):=⟨_,rfl⟩
       rw [← hq1] at HH1
       rw [← hq2] at HH2
       have HQQ:Hid ((q1 == q2)=false):=Lib.hid (by
        have hm:=HMG.out y
        rw [hq1,hq2]
        by_cases hb : y∈b
        ·rw [decide_eq_true hb,decide_eq_false (fun h=>((hm.1 h).2 hb))]
         rfl
        ·rw [decide_eq_false hb,decide_eq_true (hm.2 ⟨hmem,hb⟩)]
         rfl)
       clear hq1 hq2 hYX hcp hmem hzp hbp hY
       go_upto_region 37 with (fail)
       refine wp_region_obl 13 (fun ix vals v w1=>match ix with | 0=>v=.slice A6 n6 c6 | 1=>v=.slice (some ⟨bp,op,none⟩) n4 c4 | 2=>v=.int .i64 (k:Int) | 3=>v=.pointer (some ⟨bp,op+k * 6,none⟩) | 4=>v=.agg YX | 5=>v=.bool q1 | 6=>v=.slice A5 n5 c5 | 7=>v=.slice (some ⟨bp,op,none⟩) n4 c4 | 8=>v=.int .i64 (k:Int) | 9=>v=.pointer (some ⟨bp,op+k * 6,none⟩) | 10=>v=.agg YX | 11=>v=.bool q2 | _=>v=.bool false) (by kernel_rfl) (by kernel_rfl) ?_ ?_ ?_ ?_
       ·intro ix vals v w1 w2 hi hr hx; exact hr
       ·intro ix vals vals_ v w1 hi hv hr
        exact hr
       ·refine ⟨?_,?_,?_,?_,?_,?_,?_,?_,?_,?_,?_,?_,?_,trivial⟩
        ·intro vals w1 hx hd ha
         clear hd ha
         simp only [Lf]
         go_wp2
         exact q_
        ·intro vals w1 hx hd ha
         clear hd ha
         simp only [Lf,dstAt,Act.put,FR_]
         go_wp2
         exact q_
        ·intro vals w1 hx hd ha
         clear hd ha
         simp only [Lf,dstAt,Act.put,FR_]
         go_wp2
         exact q_
        ·intro vals w1 hx hd ha
         have e1:vals 1=.slice (some ⟨bp,op,none⟩) n4 c4:=hd 1 (by decide)
         have e2:vals 2=.int .i64 (k:Int):=hd 2 (by decide)
         clear hd ha
         simp only [Lf,dstAt,Act.put,FR_,e1,e2]
         clear e1 e2
         go_wp2
         exact q_
        ·intro vals w1 hx hd ha
         have e3:vals 3=.pointer (some ⟨bp,op+k * 6,none⟩):=hd 3 (by decide)
         clear hd ha
         simp only [Lf,dstAt,Act.put,FR_,e3]
         clear e3
         refine wpList_load_st rfl _ _ rfl bp (op+k * 6) rfl YX (pasCells y) HYX.out _ (RA.range2 HCP.out hx.undrew) Tryz.underlying75 rfl pas_sizeI ?_
         go_wp2
         exact q_
        ·intro vals w1 hx hd ha
         have e0:vals 0=.slice A6 n6 c6:=hd 0 (by decide)
         have e4:vals 4=.agg YX:=hd 4 (by decide)
         clear hd ha
         simp only [Lf,dstAt,Act.put,FR_,e0]
         simp only [e4]
         clear e0 e4
         go_wp2_with fail
         refine (HH1.out _ (Ext.trans HY.out hx.undrew)).mono ?_
         rintro e w2 ⟨rfl,hb2⟩
         go_wp2
         exact ⟨rfl,hb2,rfl⟩
        ·intro vals w1 hx hd ha
         clear hd ha
         simp only [Lf,dstAt,Act.put,FR_]
         go_wp2
         exact q_
        ·intro vals w1 hx hd ha
         clear hd ha
         simp only [Lf,dstAt,Act.put,FR_]
         go_wp2
         exact q_
        ·intro vals w1 hx hd ha
         clear hd ha
         simp only [Lf,dstAt,Act.put,FR_]
         go_wp2
         exact q_
        ·intro vals w1 hx hd ha
         have e7:vals 7=.slice (some ⟨bp,op,none⟩) n4 c4:=hd 7 (by decide)
         have e8:vals 8=.int .i64 (k:Int):=hd 8 (by decide)
         clear hd ha
         simp only [Lf,dstAt,Act.put,FR_,e7,e8]
         clear e7 e8
         go_wp2
         exact q_
        ·intro vals w1 hx hd ha
         have e9:vals 9=.pointer (some ⟨bp,op+k * 6,none⟩):=hd 9 (by decide)
         clear hd ha
         simp only [Lf,dstAt,Act.put,FR_,e9]
         clear e9
         refine wpList_load_st rfl _ _ rfl bp (op+k * 6) rfl YX (pasCells y) HYX.out _ (RA.range2 HCP.out hx.undrew) Tryz.underlying75 rfl pas_sizeI ?_
         go_wp2
         exact q_
        ·intro vals w1 hx hd ha
         have e5:vals 5=.bool q1:=hd 5 (by decide)
         have e6:vals 6=.slice A5 n5 c5:=hd 6 (by decide)
         have e10:vals 10=.agg YX:=hd 10 (by decide)
         clear hd ha
         simp only [Lf,dstAt,Act.put,FR_,e5]
         simp only [e6]
         simp only [e10]
         clear e5 e6 e10
         go_wp2_with fail
         refine (HH2.out _ (Ext.trans HY.out hx.undrew)).mono ?_
         rintro e w2 ⟨rfl,hb2⟩
         go_wp2
         exact ⟨rfl,hb2,rfl⟩
        ·intro vals w1 hx hd ha
         have e5:vals 5=.bool q1:=hd 5 (by decide)
         have e11:vals 11=.bool q2:=hd 11 (by decide)
         clear hd ha
         simp only [Lf,dstAt,Act.put,FR_,e5,e11]
         clear e5 e11
         have hqq:=HQQ.out
         go_wp2
         exact q_
       intro vals V9 hx hf
       have e12:vals 12=.bool false:=hf 12 (by omega)
       have hx:=hx.undrew
       have HY9:=Lib.hid (Ext.trans HY.out hx)
       clear hf hx
       refine tail0 (by kernel_rfl) ?_
       simp only [Lf,dstAt,Act.put,FR_]
       rw [e12]
       clear e12
       go_wp2
       go_roundw
       case rel=>exact ⟨k+1,by omega,by go_num,HY9.out⟩
       case measure=>simp [intOf]; omega
      ·have hkz:¬ (k:Int) < (n4:Int):=by omega
       have Hx:=Lib.hid (Ext.trans HX0.out hY)
       clear hY HX0
       have HX0:=Hx
       clear Hx
       obtain ⟨V1,hV1⟩ : ∃ V,V=wr:=⟨_,rfl⟩
       rw [← hV1] at HX0 ⊢
       clear hV1
       obtain ⟨V0,hV0⟩ : ∃ V,V=V1:=⟨_,rfl⟩
       rw [← hV0] at HX0 ⊢
       clear hV0
       go_wp2
       go_loopw [31] (fun i wr=>∃ k : Nat,k≤n5∧i=.int .i64 k∧Ext V0 wr) (fun i _=>n5 - (intOf i).toNat)
       case atStart=>exact ⟨0,Nat.zero_le _,rfl,Below.refl _ _⟩
       case round =>
        obtain ⟨k,hk,rfl,hY⟩:=hrel
        by_cases hkn : k < n5
        ·have hkz:(k:Int) < (n5:Int):=by omega
         obtain ⟨bp,op,hzp,hAp,hbp,hcp⟩:=RA.range pas_len (Hb.out.below (Ext.trans HX0.out hY)) hkn
         subst hAp
         have hmem:b[k]∈b:=List.getElem_mem _
         generalize b[k]=y at hcp hmem
         obtain ⟨YX,hYX⟩ : ∃ X,(pasCells y).toArray=X:=⟨_,rfl⟩
         have HYX:=Lib.hid hYX
         have HCP:=Lib.hid hcp
         have HY:=Lib.hid hY
         have HH10:=fun W (hx:Ext V0 W)=>has36_any A7 n7 c7 D y W (ra_ext Hd.out (Ext.trans HX0.out hx))
         rw [hYX] at HH10
         have HH1:=Lib.hid HH10
         clear HH10
         have HH20:=fun W (hx:Ext V0 W)=>has36_any A4 n4 c4 a y W (ra_ext Ha.out (Ext.trans HX0.out hx))
         rw [hYX] at HH20
         have HH2:=Lib.hid HH20
         clear HH20
         obtain ⟨q1,hq1⟩ : ∃ q,q=decide (y∈D):=⟨_,rfl⟩
         obtain ⟨q2,hq2⟩ : ∃ q,q=decide (y∈a):=⟨_,rfl⟩
         rw [← hq1] at HH1
         rw [← hq2] at HH2
         have HQQ:Hid ((q1 == q2)=false):=Lib.hid (by
          have hm:=Hm.out y
          rw [hq1,hq2]
          by_cases hb : y∈a
          ·rw [decide_eq_true hb,decide_eq_false (fun h=>((hm.1 h).2 hb))]
           rfl
          ·rw [decide_eq_false hb,decide_eq_true (hm.2 ⟨hmem,hb⟩)]
           rfl)
         clear hq1 hq2 hYX hcp hmem hzp hbp hY
         go_upto_region 42 with (fail)
         refine wp_region_obl 13 (fun ix vals v w1=>match ix with | 0=>v=.slice A7 n7 c7 | 1=>v=.slice (some ⟨bp,op,none⟩) n5 c5 | 2=>v=.int .i64 (k:Int) | 3=>v=.pointer (some ⟨bp,op+k * 6,none⟩) | 4=>v=.agg YX | 5=>v=.bool q1 | 6=>v=.slice A4 n4 c4 | 7=>v=.slice (some ⟨bp,op,none⟩) n5 c5 | 8=>v=.int .i64 (k:Int) | 9=>v=.pointer (some ⟨bp,op+k * 6,none⟩) | 10=>v=.agg YX | 11=>v=.bool q2 | _=>v=.bool false) (by kernel_rfl) (by kernel_rfl) ?_ ?_ ?_ ?_
         ·intro ix vals v w1 w2 hi hr hx; exact hr
         ·intro ix vals vals_ v w1 hi hv hr
          exact hr
         ·refine ⟨?_,?_,?_,?_,?_,?_,?_,?_,?_,?_,?_,?_,?_,trivial⟩
          ·intro vals w1 hx hd ha
           clear hd ha
           simp only [Lf]
           go_wp2
           exact q_
          ·intro vals w1 hx hd ha
           clear hd ha
           simp only [Lf,dstAt,Act.put,FR_]
           go_wp2
           exact q_
          ·intro vals w1 hx hd ha
           clear hd ha
           simp only [Lf,dstAt,Act.put,FR_]
           go_wp2
           exact q_
          ·intro vals w1 hx hd ha
           have e1:vals 1=.slice (some ⟨bp,op,none⟩) n5 c5:=hd 1 (by decide)
           have e2:vals 2=.int .i64 (k:Int):=hd 2 (by decide)
           clear hd ha
           simp only [Lf,dstAt,Act.put,FR_,e1,e2]
           clear e1 e2
           go_wp2
           exact q_
          ·intro vals w1 hx hd ha
           have e3:vals 3=.pointer (some ⟨bp,op+k * 6,none⟩):=hd 3 (by decide)
           clear hd ha
           simp only [Lf,dstAt,Act.put,FR_,e3]
           clear e3
           refine wpList_load_st rfl _ _ rfl bp (op+k * 6) rfl YX (pasCells y) HYX.out _ (RA.range2 HCP.out hx.undrew) Tryz.underlying75 rfl pas_sizeI ?_
           go_wp2
           exact q_
          ·intro vals w1 hx hd ha
           have e0:vals 0=.slice A7 n7 c7:=hd 0 (by decide)
           have e4:vals 4=.agg YX:=hd 4 (by decide)
           clear hd ha
           simp only [Lf,dstAt,Act.put,FR_,e0]
           simp only [e4]
           clear e0 e4
           go_wp2_with fail
           refine (HH1.out _ (Ext.trans HY.out hx.undrew)).mono ?_
           rintro e w2 ⟨rfl,hb2⟩
           go_wp2
           exact ⟨rfl,hb2,rfl⟩
          ·intro vals w1 hx hd ha
           clear hd ha
           simp only [Lf,dstAt,Act.put,FR_]
           go_wp2
           exact q_
          ·intro vals w1 hx hd ha
           clear hd ha
           simp only [Lf,dstAt,Act.put,FR_]
           go_wp2
           exact q_
          ·intro vals w1 hx hd ha
           clear hd ha
           simp only [Lf,dstAt,Act.put,FR_]
           go_wp2
           exact q_
          ·intro vals w1 hx hd ha
           have e7:vals 7=.slice (some ⟨bp,op,none⟩) n5 c5:=hd 7 (by decide)
           have e8:vals 8=.int .i64 (k:Int):=hd 8 (by decide)
           clear hd ha
           simp only [Lf,dstAt,Act.put,FR_,e7,e8]
           clear e7 e8
           go_wp2
           exact q_
          ·intro vals w1 hx hd ha
           have e9:vals 9=.pointer (some ⟨bp,op+k * 6,none⟩):=hd 9 (by decide)
           clear hd ha
           simp only [Lf,dstAt,Act.put,FR_,e9]
           clear e9
           refine wpList_load_st rfl _ _ rfl bp (op+k * 6) rfl YX (pasCells y) HYX.out _ (RA.range2 HCP.out hx.undrew) Tryz.underlying75 rfl pas_sizeI ?_
           go_wp2
           exact q_
          ·intro vals w1 hx hd ha
           have e5:vals 5=.bool q1:=hd 5 (by decide)
           have e6:vals 6=.slice A4 n4 c4:=hd 6 (by decide)
           have e10:vals 10=.agg YX:=hd 10 (by decide)
           clear hd ha
           simp only [Lf,dstAt,Act.put,FR_,e5]
           simp only [e6]
           simp only [e10]
           clear e5 e6 e10
           go_wp2_with fail
           refine (HH2.out _ (Ext.trans HY.out hx.undrew)).mono ?_
           rintro e w2 ⟨rfl,hb2⟩
           go_wp2
           exact ⟨rfl,hb2,rfl⟩
          ·intro vals w1 hx hd ha
           have e5:vals 5=.bool q1:=hd 5 (by decide)
           have e11:vals 11=.bool q2:=hd 11 (by decide)
           clear hd ha
           simp only [Lf,dstAt,Act.put,FR_,e5,e11]
           clear e5 e11
           have hqq:=HQQ.out
           go_wp2
           exact q_
         intro vals V9 hx hf
         have e12:vals 12=.bool false:=hf 12 (by omega)
         have hx:=hx.undrew
         have HY9:=Lib.hid (Ext.trans HY.out hx)
         clear hf hx
         refine tail0 (by kernel_rfl) ?_
         simp only [Lf,dstAt,Act.put,FR_]
         rw [e12]
         clear e12
         go_wp2
         go_roundw
         case rel=>exact ⟨k+1,by omega,by go_num,HY9.out⟩
         case measure=>simp [intOf]; omega
        ·have hkz:¬ (k:Int) < (n5:Int):=by omega
         have Hx:=Lib.hid (Ext.trans HX0.out hY)
         clear hY HX0
         have HX0:=Hx
         clear Hx
         obtain ⟨V1,hV1⟩ : ∃ V,V=wr:=⟨_,rfl⟩
         rw [← hV1] at HX0 ⊢
         clear hV1
         obtain ⟨V0,hV0⟩ : ∃ V,V=V1:=⟨_,rfl⟩
         rw [← hV0] at HX0 ⊢
         clear hV0
         go_wp2
         go_loopw [32] (fun i wr=>∃ k : Nat,k≤n6∧i=.int .i64 k∧Ext V0 wr) (fun i _=>n6 - (intOf i).toNat)
         case atStart=>exact ⟨0,Nat.zero_le _,rfl,Below.refl _ _⟩
         case round =>
          obtain ⟨k,hk,rfl,hY⟩:=hrel
          by_cases hkn : k < n6
          ·have hkz:(k:Int) < (n6:Int):=by omega
           obtain ⟨bp,op,hzp,hAp,hbp,hcp⟩:=RA.range pas_len (Hg.out.below (Ext.trans HX0.out hY)) hkn
           subst hAp
           have hmem:G[k]∈G:=List.getElem_mem _
           generalize G[k]=y at hcp hmem
           obtain ⟨YX,hYX⟩ : ∃ X,(pasCells y).toArray=X:=⟨_,rfl⟩
           have HYX:=Lib.hid hYX
           have HCP:=Lib.hid hcp
           have HY:=Lib.hid hY
           have HH10:=fun W (hx:Ext V0 W)=>has36_any A4 n4 c4 a y W (ra_ext Ha.out (Ext.trans HX0.out hx))
           rw [hYX] at HH10
           have HH1:=Lib.hid HH10
           clear HH10
           have hd:decide (y∈a)=true:=decide_eq_true (((HMG.out y).1 hmem).1)
           rw [hd] at HH1
           clear hd hYX hcp hmem hzp hbp hY
           go_upto_region 47 with (fail)
           go_wp2_with (refine wpList_load_st rfl _ _ rfl bp (op+k * 6) rfl YX (pasCells y) HYX.out _ HCP.out Tryz.underlying75 rfl pas_sizeI ?_)
           refine (HH1.out _ HY.out).mono ?_
           rintro e V9 ⟨rfl,hx⟩
           have HY9:=Lib.hid (Ext.trans HY.out hx)
           clear hx HH1 HCP
           go_wp2
           go_roundw
           case rel=>exact ⟨k+1,by omega,by go_num,HY9.out⟩
           case measure=>simp [intOf]; omega
          ·have hkz:¬ (k:Int) < (n6:Int):=by omega
           have Hx:=Lib.hid (Ext.trans HX0.out hY)
           clear hY HX0
           have HX0:=Hx
           clear Hx
           obtain ⟨V1,hV1⟩ : ∃ V,V=wr:=⟨_,rfl⟩
           rw [← hV1] at HX0 ⊢
           clear hV1
           obtain ⟨V0,hV0⟩ : ∃ V,V=V1:=⟨_,rfl⟩
           rw [← hV0] at HX0 ⊢
           clear hV0
           go_wp2
           go_loopw [33] (fun i wr=>∃ k : Nat,k≤n7∧i=.int .i64 k∧Ext V0 wr) (fun i _=>n7 - (intOf i).toNat)
           case atStart=>exact ⟨0,Nat.zero_le _,rfl,Below.refl _ _⟩
           case round =>
            obtain ⟨k,hk,rfl,hY⟩:=hrel
            by_cases hkn : k < n7
            ·have hkz:(k:Int) < (n7:Int):=by omega
             obtain ⟨bp,op,hzp,hAp,hbp,hcp⟩:=RA.range pas_len (Hd.out.below (Ext.trans HX0.out hY)) hkn
             subst hAp
             have hmem:D[k]∈D:=List.getElem_mem _
             generalize D[k]=y at hcp hmem
             obtain ⟨YX,hYX⟩ : ∃ X,(pasCells y).toArray=X:=⟨_,rfl⟩
             have HYX:=Lib.hid hYX
             have HCP:=Lib.hid hcp
             have HY:=Lib.hid hY
             have HH10:=fun W (hx:Ext V0 W)=>has36_any A5 n5 c5 b y W (ra_ext Hb.out (Ext.trans HX0.out hx))
             rw [hYX] at HH10
             have HH1:=Lib.hid HH10
             clear HH10
             have hd:decide (y∈b)=true:=decide_eq_true (((Hm.out y).1 hmem).1)
             rw [hd] at HH1
             clear hd hYX hcp hmem hzp hbp hY
             go_upto_region 52 with (fail)
             go_wp2_with (refine wpList_load_st rfl _ _ rfl bp (op+k * 6) rfl YX (pasCells y) HYX.out _ HCP.out Tryz.underlying75 rfl pas_sizeI ?_)
             refine (HH1.out _ HY.out).mono ?_
             rintro e V9 ⟨rfl,hx⟩
             have HY9:=Lib.hid (Ext.trans HY.out hx)
             clear hx HH1 HCP
             go_wp2
             go_roundw
             case rel=>exact ⟨k+1,by omega,by go_num,HY9.out⟩
             case measure=>simp [intOf]; omega
            ·have hkz:¬ (k:Int) < (n7:Int):=by omega
             have Hx:=Lib.hid (Ext.trans HX0.out hY)
             clear hY HX0
             have HX0:=Hx
             clear Hx
             obtain ⟨V1,hV1⟩ : ∃ V,V=wr:=⟨_,rfl⟩
             rw [← hV1] at HX0 ⊢
             clear hV1
             obtain ⟨V0,hV0⟩ : ∃ V,V=V1:=⟨_,rfl⟩
             rw [← hV0] at HX0 ⊢
             clear hV0
             go_wp2
             go_ret
             exact ⟨rfl,Ext.trans HB.out HX0.out⟩
end Go.Proofs.YtjidhhfabfnhnaaGreat
namespace Go.Proofs.YtjidhhfabfnhnaaGreat
open Go.ChangeShapes Go.WideShapes Go.ChangeAt Go.RowKit Go.Deep
set_option linter.unusedVariables false
set_option maxRecDepth 100000 in
theorem ephemerisExact_lifted (os:Os) (started:os.Started) (H:Type) (enc:TypeId × Value→H) :
  ReturnsInHanded {} Tryz.checked os 9 .any (Rows.ephemerisExactSpec.pre6 enc Tryz.prog Tryz.f9 Rows.ephemerisExactRow.domain false) (Rows.ephemerisExactSpec.post enc Tryz.prog Tryz.f9 false true false false):=by
 refine returnsInHanded_of_change (C:=Tryz.checked) ownKn started (by kernel_rfl) Tryz.func9
  (ChangeSpec.witness6 (enc:=enc) (C:=Tryz.checked) false ⟨#[],#[.agg #[.slice none 0 0,.slice none 0 0,.slice none 0 0,.slice none 0 0,.int .i64 0,.int .i64 0],.int .i64 0,.int .i64 0],[]⟩ 8 (by kernel_rfl) (by kernel_rfl) (by kernel_rfl) (by kernel_rfl)) ?_
 intro W base args ds gs before hval0 hW hcnd _
 have hval:∀ (j:Nat) t v,Tryz.f9.params[j]?=some t→args[j]?=some v→Value.okWide Tryz.prog W .any base t v:=hval0
 have hW':=hW
 obtain ⟨p,q,hA0,hV,rfl,hfz,hnd⟩:=hW
 have hA:DataW.TrodAll enc Tryz.prog W 0 (fun _=>true) true Tryz.f9.params.toList args.toList ds p:=hA0
 rw [Tryz.params9] at hA hval
 obtain ⟨v0,vs0,d0,ds0,p0,q0,hargs,rfl,rfl,h0,r0⟩:=trodAll_cons hA
 obtain ⟨v1,vs1,d1,ds1,p1,q1,rfl,rfl,rfl,h1,r1⟩:=trodAll_cons r0
 obtain ⟨v2,vs2,d2,ds2,p2,q2,rfl,rfl,rfl,h2,r2⟩:=trodAll_cons r1
 obtain ⟨rfl,rfl,rfl⟩:=trodAll_nil r2
 obtain rfl : args=#[v0,v1,v2]:=by cases args; simp_all
 obtain ⟨rfl,rfl⟩:=trodVars_none hV
 have k0:=h0
 have lt0:∀ x∈p0,x.block < W.heap.size:=by obtain ⟨m,hm⟩:=k0; exact DataW.trod_lt m _ _ _ hm
 obtain ⟨c0,rfl,o0⟩:=open_Case (hval 0 25 v0 rfl rfl) h0
 obtain ⟨a1,rfl,rfl,rfl,w1⟩:=open_int Tryz.underlying3 (hval 1 3 v1 rfl rfl) h1
 obtain ⟨a2,rfl,rfl,rfl,w2⟩:=open_int Tryz.underlying3 (hval 2 3 v2 rfl rfl) h2
 clear hA0 hval0
 refine (exact_walk c0 a1 a2 W o0 (i64_of_wf w1) (i64_of_wf w2)).mono fun e W' ⟨he,bel⟩=>?_
 subst he
 exact ⟨_,rfl,_,_,_,[],_,[],hW',trodAll_mk1 (shut_bool Tryz.underlying4 _),(trodAll_cons_mk (Below.trod laidOut (by kernel_rfl) (of_decide_eq_true (by kernel_rfl)) k0 bel lt0) (trodAll_cons_mk (shut_int Tryz.underlying3 w1) (trodAll_cons_mk (shut_int Tryz.underlying3 w2) trodAll_mk0))),rfl,bel.frame _,fun h=>by cases h⟩
theorem ephemerisExact_over : Rows.ephemerisExactRow.holds Tryz.pinned (OpenSpec.ofChange Rows.ephemerisExactSpec) :=
 OpenClaim.holds_of_wide 9 Tryz.f9 rfl rfl rfl rfl rfl rfl rfl ⟨rfl,rfl,rfl,rfl,rfl⟩ rfl rfl rfl rfl rfl (by kernel_rfl) Tryz.func9 (by kernel_rfl)
  (of_decide_eq_true (by kernel_rfl)) (by unfold Func.isWrapper; first | (rw [if_pos (by decide +kernel)]; kernel_rfl) | (rw [if_neg (by decide +kernel)]; exact ⟨rfl,rfl⟩))
  (fun os started H enc _=>ephemerisExact_lifted os started H enc)
theorem ephemerisExact_proved : Rows.EphemerisExactSaid:=ephemerisExact_over
end Go.Proofs.YtjidhhfabfnhnaaGreat
