/- Passes by what is known: what holds between the rounds. -/
import Derived.Test.YtjidhhfabfnhnaaGreatK19
import Derived.Test.YtjidhhfabfnhnaaGreatK20
import Derived.Test.YtjidhhfabfnhnaaGreatK15
namespace Go.Proofs.YtjidhhfabfnhnaaGreat
open Go.RowKit
structure Cmp3 {α : Type} (c : α → α → Int) : Prop where
 sw : ∀ a b,c a b < 0 ↔ 0 < c b a
 tr : ∀ a b d,c a b ≤ 0 → c b d ≤ 0 → c a d ≤ 0
theorem Cmp3.key {α : Type} (f : α → Int) : Cmp3 (fun a b => cmpI (f a) (f b)):=by
 constructor
 ·intro a b
  simp only [cmpI]
  repeat' split
  all_goals omega
 ·intro a b d
  simp only [cmpI]
  repeat' split
  all_goals omega
theorem Cmp3.or {α : Type} {c d : α → α → Int} (h : Cmp3 c) (k : Cmp3 d) : Cmp3 (fun a b => orI (c a b) (d a b)):=by
 constructor
 ·intro a b
  have h1:=h.sw a b
  have h2:=h.sw b a
  have h3:=k.sw a b
  simp only [orI]
  repeat' split
  all_goals omega
 ·intro a b e
  have h1:=h.sw a b
  have h2:=h.sw b a
  have h3:=h.sw b e
  have h4:=h.sw e b
  have h5:=h.sw a e
  have h6:=h.sw e a
  have t1:=h.tr a b e
  have t2:=h.tr e a b
  have t3:=h.tr b e a
  have t4:=k.tr a b e
  simp only [orI]
  repeat' split
  all_goals omega
theorem Cmp3.strict {α : Type} {c : α → α → Int} (h : Cmp3 c) : SW (ltOf c):=by
 constructor
 ·intro a b d h1 h2
  simp only [ltOf,decide_eq_true_eq] at h1 h2 ⊢
  have e1:=h.sw a b
  have e2:=h.sw a d
  have e3:=h.tr b d a
  omega
 ·intro a b h1
  simp only [ltOf,decide_eq_true_eq,decide_eq_false_iff_not] at h1 ⊢
  have e1:=h.sw a b
  omega
 ·intro a b d h1 h2
  simp only [ltOf,decide_eq_false_iff_not] at h1 h2 ⊢
  have e1:=h.sw a b
  have e2:=h.sw b d
  have e3:=h.sw a d
  have e4:=h.tr d b a
  omega
theorem sw_pas : SW (ltOf cmpPas):=(Cmp3.or (Cmp3.key (fun p : Pas => p.can.fr)) (Cmp3.or (Cmp3.key (fun p : Pas => p.sat)) (Cmp3.or (Cmp3.key (fun p : Pas => p.station)) (Cmp3.or (Cmp3.key (fun p : Pas => p.sure.fr)) (Cmp3.key (fun p : Pas => p.can.tt)))))).strict
theorem sortC_all : SortC 1000000:=fun base g n c l w h hn => sort_any 68 #[] cmpPas (enters_of Tryz.func68 (by kernel_rfl) rfl) (fun x y w => compare_x x y w) sw_pas base g n c hn l w h
theorem Passes_all (sats : List St) (stns : List Stn) (SA TA : Option Addr) (sn sc tn tc : Nat) (a b : Int) (w : World) (hS : RA satCells 21 w w.heap.size SA sn sc sats) (hT : RA stnCells 6 w w.heap.size TA tn tc stns) :
  Calls Tryz.prog 35 #[.slice SA sn sc,.slice TA tn tc,.agg #[.int .i64 a,.int .i64 b]] w (PassesRet (passesP sats stns ⟨a,b⟩) w) :=
 callsIn_wide.1 (Passes_in 1000000 sortC_all sats stns SA TA sn sc tn tc a b w hS hT (fun h => by omega))
end Go.Proofs.YtjidhhfabfnhnaaGreat
namespace Go.Proofs.YtjidhhfabfnhnaaGreat
open Go.RowKit Go.Shelf
set_option maxHeartbeats 1000000 in
theorem ecompare_any (asa asn aa ab ac ad bsa bsn ba bb bc bd : Int) (w : World) :
  Calls Tryz.prog 50 #[.agg #[.int .i64 asa,.int .i64 asn,.int .i64 aa,.int .i64 ab,.int .i64 ac,.int .i64 ad],.agg #[.int .i64 bsa,.int .i64 bsn,.int .i64 ba,.int .i64 bb,.int .i64 bc,.int .i64 bd]] w fun e w' => e = .returned (.int .i64 (cmpPas ⟨asa,asn,⟨aa,ab⟩,⟨ac,ad⟩⟩ ⟨bsa,bsn,⟨ba,bb⟩,⟨bc,bd⟩⟩)) ∧ Below w.heap.size w w':=by
 have hr : cmpPas ⟨asa,asn,⟨aa,ab⟩,⟨ac,ad⟩⟩ ⟨bsa,bsn,⟨ba,bb⟩,⟨bc,bd⟩⟩ = orL [cmpI ac bc,cmpI asa bsa,cmpI asn bsn,cmpI aa ba,cmpI ad bd]:=(orL5 _ _ _ _ _).symm
 rw [hr]
 clear hr
 generalize h0 : cmpI ac bc = c0
 generalize h1 : cmpI asa bsa = c1
 generalize h2 : cmpI asn bsn = c2
 generalize h3 : cmpI aa ba = c3
 generalize h4 : cmpI ad bd = c4
 have HC0:=Lib.hid h0
 have HC1:=Lib.hid h1
 have HC2:=Lib.hid h2
 have HC3:=Lib.hid h3
 have HC4:=Lib.hid h4
 clear h0 h1 h2 h3 h4
 go_enter Tryz.func50,Tryz.ntmps50
 go_wp2_with fail
 have K1 : Blk ((w.alloc (.cells #[.int .i64 asa,.int .i64 asn,.int .i64 aa,.int .i64 ab,.int .i64 ac,.int .i64 ad] 75)).alloc (.cells #[.int .i64 bsa,.int .i64 bsn,.int .i64 ba,.int .i64 bb,.int .i64 bc,.int .i64 bd] 75)) w.heap.size 75 #[.int .i64 asa,.int .i64 asn,.int .i64 aa,.int .i64 ab,.int .i64 ac,.int .i64 ad]:=(Blk.new _ _ _).alloc _
 have K2 : Blk ((w.alloc (.cells #[.int .i64 asa,.int .i64 asn,.int .i64 aa,.int .i64 ab,.int .i64 ac,.int .i64 ad] 75)).alloc (.cells #[.int .i64 bsa,.int .i64 bsn,.int .i64 ba,.int .i64 bb,.int .i64 bc,.int .i64 bd] 75)) (w.heap.size + 1) 75 #[.int .i64 bsa,.int .i64 bsn,.int .i64 ba,.int .i64 bb,.int .i64 bc,.int .i64 bd]:=Blk.new_at _ _ _ (by simp)
 have hB : Below w.heap.size w ((w.alloc (.cells #[.int .i64 asa,.int .i64 asn,.int .i64 aa,.int .i64 ab,.int .i64 ac,.int .i64 ad] 75)).alloc (.cells #[.int .i64 bsa,.int .i64 bsn,.int .i64 ba,.int .i64 bb,.int .i64 bc,.int .i64 bd] 75)):=(by repeat (first | exact Below.refl _ _ | assumption | refine Below.drew ?_ | refine below_drewN ?_ _ | refine bl_alloc ?_ _ | refine Below.setCell ?_ (by first | (simp; done) | omega | (simp; omega)) _ | refine bl_then ?_ (by assumption)))
 generalize (w.alloc (.cells #[.int .i64 asa,.int .i64 asn,.int .i64 aa,.int .i64 ab,.int .i64 ac,.int .i64 ad] 75)).alloc (.cells #[.int .i64 bsa,.int .i64 bsn,.int .i64 ba,.int .i64 bb,.int .i64 bc,.int .i64 bd] 75) = W at K1 K2 hB ⊢
 have g0 : W.cell? ⟨w.heap.size,0,none⟩ = some (.int .i64 asa):=K1.cell 0
 have g1 : W.cell? ⟨w.heap.size,1,none⟩ = some (.int .i64 asn):=K1.cell 1
 have g2 : W.cell? ⟨w.heap.size,2,none⟩ = some (.int .i64 aa):=K1.cell 2
 have g3 : W.cell? ⟨w.heap.size,3,none⟩ = some (.int .i64 ab):=K1.cell 3
 have g4 : W.cell? ⟨w.heap.size,4,none⟩ = some (.int .i64 ac):=K1.cell 4
 have g5 : W.cell? ⟨w.heap.size,5,none⟩ = some (.int .i64 ad):=K1.cell 5
 have k0 : W.cell? ⟨(w.heap.size + 1),0,none⟩ = some (.int .i64 bsa):=K2.cell 0
 have k1 : W.cell? ⟨(w.heap.size + 1),1,none⟩ = some (.int .i64 bsn):=K2.cell 1
 have k2 : W.cell? ⟨(w.heap.size + 1),2,none⟩ = some (.int .i64 ba):=K2.cell 2
 have k3 : W.cell? ⟨(w.heap.size + 1),3,none⟩ = some (.int .i64 bb):=K2.cell 3
 have k4 : W.cell? ⟨(w.heap.size + 1),4,none⟩ = some (.int .i64 bc):=K2.cell 4
 have k5 : W.cell? ⟨(w.heap.size + 1),5,none⟩ = some (.int .i64 bd):=K2.cell 5
 refine wp_region_obl 33 (fun ix vals v w1 => match ix with | 0 => v = .pointer (some ⟨w.heap.size,4,none⟩) | 1 => v = .pointer (some ⟨w.heap.size,4,none⟩) | 2 => v = .int .i64 ac | 3 => v = .pointer (some ⟨w.heap.size + 1,4,none⟩) | 4 => v = .pointer (some ⟨w.heap.size + 1,4,none⟩) | 5 => v = .int .i64 bc | 6 => v = .int .i64 c0 | 7 => v = .pointer (some ⟨w.heap.size,0,none⟩) | 8 => v = .int .i64 asa | 9 => v = .pointer (some ⟨w.heap.size + 1,0,none⟩) | 10 => v = .int .i64 bsa | 11 => v = .int .i64 c1 | 12 => v = .pointer (some ⟨w.heap.size,1,none⟩) | 13 => v = .int .i64 asn | 14 => v = .pointer (some ⟨w.heap.size + 1,1,none⟩) | 15 => v = .int .i64 bsn | 16 => v = .int .i64 c2 | 17 => v = .pointer (some ⟨w.heap.size,2,none⟩) | 18 => v = .pointer (some ⟨w.heap.size,2,none⟩) | 19 => v = .int .i64 aa | 20 => v = .pointer (some ⟨w.heap.size + 1,2,none⟩) | 21 => v = .pointer (some ⟨w.heap.size + 1,2,none⟩) | 22 => v = .int .i64 ba | 23 => v = .int .i64 c3 | 24 => v = .pointer (some ⟨w.heap.size,4,none⟩) | 25 => v = .pointer (some ⟨w.heap.size,5,none⟩) | 26 => v = .int .i64 ad | 27 => v = .pointer (some ⟨w.heap.size + 1,4,none⟩) | 28 => v = .pointer (some ⟨w.heap.size + 1,5,none⟩) | 29 => v = .int .i64 bd | 30 => v = .int .i64 c4 | 31 => ∃ g,v = .slice (some ⟨g,0,none⟩) 5 5 ∧ Blk w1 g 3 #[.int .i64 c0,.int .i64 c1,.int .i64 c2,.int .i64 c3,.int .i64 c4] | _ => v = .int .i64 (orL [c0,c1,c2,c3,c4])) (by kernel_rfl) (by kernel_rfl) ?_ ?_ ?_ ?_
 ·intro ix vals v w1 w2 hi hr hx
  match ix,hr with
  | 0,hr => exact hr
  | 1,hr => exact hr
  | 2,hr => exact hr
  | 3,hr => exact hr
  | 4,hr => exact hr
  | 5,hr => exact hr
  | 6,hr => exact hr
  | 7,hr => exact hr
  | 8,hr => exact hr
  | 9,hr => exact hr
  | 10,hr => exact hr
  | 11,hr => exact hr
  | 12,hr => exact hr
  | 13,hr => exact hr
  | 14,hr => exact hr
  | 15,hr => exact hr
  | 16,hr => exact hr
  | 17,hr => exact hr
  | 18,hr => exact hr
  | 19,hr => exact hr
  | 20,hr => exact hr
  | 21,hr => exact hr
  | 22,hr => exact hr
  | 23,hr => exact hr
  | 24,hr => exact hr
  | 25,hr => exact hr
  | 26,hr => exact hr
  | 27,hr => exact hr
  | 28,hr => exact hr
  | 29,hr => exact hr
  | 30,hr => exact hr
  | 31,hr => obtain ⟨g,h1,h2⟩:=hr; exact ⟨g,h1,h2.ext hx⟩
  | (kx + 32),hr => exact hr
 ·intro ix vals vals_ v w1 hi hv hr
  exact hr
 ·refine ⟨?_,?_,?_,?_,?_,?_,?_,?_,?_,?_,?_,?_,?_,?_,?_,?_,?_,?_,?_,?_,?_,?_,?_,?_,?_,?_,?_,?_,?_,?_,?_,?_,?_,trivial⟩
  ·intro vals w1 hx hd ha
   clear hd ha
   simp only [Lf]
   go_wp2
   exact q_
  ·intro vals w1 hx hd ha
   have e0 : vals 0 = .pointer (some ⟨w.heap.size,4,none⟩):=hd 0 (by decide)
   clear hd ha
   simp only [Lf,dstAt,Act.put,FR_,e0]
   clear e0
   go_wp2
   exact q_
  ·intro vals w1 hx hd ha
   have e1 : vals 1 = .pointer (some ⟨w.heap.size,4,none⟩):=hd 1 (by decide)
   clear hd ha
   simp only [Lf,dstAt,Act.put,FR_,e1]
   clear e1
   have g4:=ext_cell hx g4
   go_wp2
   exact q_
  ·intro vals w1 hx hd ha
   clear hd ha
   simp only [Lf,dstAt,Act.put,FR_]
   go_wp2
   exact q_
  ·intro vals w1 hx hd ha
   have e3 : vals 3 = .pointer (some ⟨w.heap.size + 1,4,none⟩):=hd 3 (by decide)
   clear hd ha
   simp only [Lf,dstAt,Act.put,FR_,e3]
   clear e3
   go_wp2
   exact q_
  ·intro vals w1 hx hd ha
   have e4 : vals 4 = .pointer (some ⟨w.heap.size + 1,4,none⟩):=hd 4 (by decide)
   clear hd ha
   simp only [Lf,dstAt,Act.put,FR_,e4]
   clear e4
   have k4:=ext_cell hx k4
   go_wp2
   exact q_
  ·intro vals w1 hx hd ha
   have e2 : vals 2 = .int .i64 ac:=hd 2 (by decide)
   have e5 : vals 5 = .int .i64 bc:=hd 5 (by decide)
   clear hd ha
   simp only [Lf,dstAt,Act.put,FR_,e2]
   simp only [e5]
   clear e2 e5
   go_wp2_with fail
   refine (cmp_any ac bc _).mono ?_
   rintro e w2 ⟨rfl,rfl⟩
   rw [HC0.out]
   go_wp2
   exact q_
  ·intro vals w1 hx hd ha
   clear hd ha
   simp only [Lf,dstAt,Act.put,FR_]
   go_wp2
   exact q_
  ·intro vals w1 hx hd ha
   have e7 : vals 7 = .pointer (some ⟨w.heap.size,0,none⟩):=hd 7 (by decide)
   clear hd ha
   simp only [Lf,dstAt,Act.put,FR_,e7]
   clear e7
   have g0:=ext_cell hx g0
   go_wp2
   exact q_
  ·intro vals w1 hx hd ha
   clear hd ha
   simp only [Lf,dstAt,Act.put,FR_]
   go_wp2
   exact q_
  ·intro vals w1 hx hd ha
   have e9 : vals 9 = .pointer (some ⟨w.heap.size + 1,0,none⟩):=hd 9 (by decide)
   clear hd ha
   simp only [Lf,dstAt,Act.put,FR_,e9]
   clear e9
   have k0:=ext_cell hx k0
   go_wp2
   exact q_
  ·intro vals w1 hx hd ha
   have e6 : vals 6 = .int .i64 c0:=hd 6 (by decide)
   have e8 : vals 8 = .int .i64 asa:=hd 8 (by decide)
   have e10 : vals 10 = .int .i64 bsa:=hd 10 (by decide)
   clear hd ha
   simp only [Lf,dstAt,Act.put,FR_,e6]
   simp only [e8]
   simp only [e10]
   clear e6 e8 e10
   go_wp2_with fail
   refine (cmp_any asa bsa _).mono ?_
   rintro e w2 ⟨rfl,rfl⟩
   rw [HC1.out]
   go_wp2
   exact q_
  ·intro vals w1 hx hd ha
   clear hd ha
   simp only [Lf,dstAt,Act.put,FR_]
   go_wp2
   exact q_
  ·intro vals w1 hx hd ha
   have e12 : vals 12 = .pointer (some ⟨w.heap.size,1,none⟩):=hd 12 (by decide)
   clear hd ha
   simp only [Lf,dstAt,Act.put,FR_,e12]
   clear e12
   have g1:=ext_cell hx g1
   go_wp2
   exact q_
  ·intro vals w1 hx hd ha
   clear hd ha
   simp only [Lf,dstAt,Act.put,FR_]
   go_wp2
   exact q_
  ·intro vals w1 hx hd ha
   have e14 : vals 14 = .pointer (some ⟨w.heap.size + 1,1,none⟩):=hd 14 (by decide)
   clear hd ha
   simp only [Lf,dstAt,Act.put,FR_,e14]
   clear e14
   have k1:=ext_cell hx k1
   go_wp2
   exact q_
  ·intro vals w1 hx hd ha
   have e11 : vals 11 = .int .i64 c1:=hd 11 (by decide)
   have e13 : vals 13 = .int .i64 asn:=hd 13 (by decide)
   have e15 : vals 15 = .int .i64 bsn:=hd 15 (by decide)
   clear hd ha
   simp only [Lf,dstAt,Act.put,FR_,e11]
   simp only [e13]
   simp only [e15]
   clear e11 e13 e15
   go_wp2_with fail
   refine (cmp_any asn bsn _).mono ?_
   rintro e w2 ⟨rfl,rfl⟩
   rw [HC2.out]
   go_wp2
   exact q_
  ·intro vals w1 hx hd ha
   clear hd ha
   simp only [Lf,dstAt,Act.put,FR_]
   go_wp2
   exact q_
  ·intro vals w1 hx hd ha
   have e17 : vals 17 = .pointer (some ⟨w.heap.size,2,none⟩):=hd 17 (by decide)
   clear hd ha
   simp only [Lf,dstAt,Act.put,FR_,e17]
   clear e17
   go_wp2
   exact q_
  ·intro vals w1 hx hd ha
   have e18 : vals 18 = .pointer (some ⟨w.heap.size,2,none⟩):=hd 18 (by decide)
   clear hd ha
   simp only [Lf,dstAt,Act.put,FR_,e18]
   clear e18
   have g2:=ext_cell hx g2
   go_wp2
   exact q_
  ·intro vals w1 hx hd ha
   clear hd ha
   simp only [Lf,dstAt,Act.put,FR_]
   go_wp2
   exact q_
  ·intro vals w1 hx hd ha
   have e20 : vals 20 = .pointer (some ⟨w.heap.size + 1,2,none⟩):=hd 20 (by decide)
   clear hd ha
   simp only [Lf,dstAt,Act.put,FR_,e20]
   clear e20
   go_wp2
   exact q_
  ·intro vals w1 hx hd ha
   have e21 : vals 21 = .pointer (some ⟨w.heap.size + 1,2,none⟩):=hd 21 (by decide)
   clear hd ha
   simp only [Lf,dstAt,Act.put,FR_,e21]
   clear e21
   have k2:=ext_cell hx k2
   go_wp2
   exact q_
  ·intro vals w1 hx hd ha
   have e16 : vals 16 = .int .i64 c2:=hd 16 (by decide)
   have e19 : vals 19 = .int .i64 aa:=hd 19 (by decide)
   have e22 : vals 22 = .int .i64 ba:=hd 22 (by decide)
   clear hd ha
   simp only [Lf,dstAt,Act.put,FR_,e16]
   simp only [e19]
   simp only [e22]
   clear e16 e19 e22
   go_wp2_with fail
   refine (cmp_any aa ba _).mono ?_
   rintro e w2 ⟨rfl,rfl⟩
   rw [HC3.out]
   go_wp2
   exact q_
  ·intro vals w1 hx hd ha
   clear hd ha
   simp only [Lf,dstAt,Act.put,FR_]
   go_wp2
   exact q_
  ·intro vals w1 hx hd ha
   have e24 : vals 24 = .pointer (some ⟨w.heap.size,4,none⟩):=hd 24 (by decide)
   clear hd ha
   simp only [Lf,dstAt,Act.put,FR_,e24]
   clear e24
   go_wp2
   exact q_
  ·intro vals w1 hx hd ha
   have e25 : vals 25 = .pointer (some ⟨w.heap.size,5,none⟩):=hd 25 (by decide)
   clear hd ha
   simp only [Lf,dstAt,Act.put,FR_,e25]
   clear e25
   have g5:=ext_cell hx g5
   go_wp2
   exact q_
  ·intro vals w1 hx hd ha
   clear hd ha
   simp only [Lf,dstAt,Act.put,FR_]
   go_wp2
   exact q_
  ·intro vals w1 hx hd ha
   have e27 : vals 27 = .pointer (some ⟨w.heap.size + 1,4,none⟩):=hd 27 (by decide)
   clear hd ha
   simp only [Lf,dstAt,Act.put,FR_,e27]
   clear e27
   go_wp2
   exact q_
  ·intro vals w1 hx hd ha
   have e28 : vals 28 = .pointer (some ⟨w.heap.size + 1,5,none⟩):=hd 28 (by decide)
   clear hd ha
   simp only [Lf,dstAt,Act.put,FR_,e28]
   clear e28
   have k5:=ext_cell hx k5
   go_wp2
   exact q_
  ·intro vals w1 hx hd ha
   have e23 : vals 23 = .int .i64 c3:=hd 23 (by decide)
   have e26 : vals 26 = .int .i64 ad:=hd 26 (by decide)
   have e29 : vals 29 = .int .i64 bd:=hd 29 (by decide)
   clear hd ha
   simp only [Lf,dstAt,Act.put,FR_,e23]
   simp only [e26]
   simp only [e29]
   clear e23 e26 e29
   go_wp2_with fail
   refine (cmp_any ad bd _).mono ?_
   rintro e w2 ⟨rfl,rfl⟩
   rw [HC4.out]
   go_wp2
   exact q_
  ·intro vals w1 hx hd ha
   have e6 : vals 6 = .int .i64 c0:=hd 6 (by decide)
   have e11 : vals 11 = .int .i64 c1:=hd 11 (by decide)
   have e16 : vals 16 = .int .i64 c2:=hd 16 (by decide)
   have e23 : vals 23 = .int .i64 c3:=hd 23 (by decide)
   have e30 : vals 30 = .int .i64 c4:=hd 30 (by decide)
   clear hd ha
   simp only [Lf,dstAt,Act.put,FR_,e6]
   simp only [e11]
   simp only [e16]
   simp only [e23]
   simp only [e30]
   clear e6 e11 e16 e23 e30
   go_wp2
   exact ⟨rfl,(by repeat (first | exact Below.refl _ _ | assumption | refine Below.drew ?_ | refine below_drewN ?_ _ | refine bl_alloc ?_ _ | refine Below.setCell ?_ (by first | (simp; done) | omega | (simp; omega)) _ | refine bl_then ?_ (by assumption))),_,rfl,Blk.new _ _ _⟩
  ·intro vals w1 hx hd ha
   have e30 : vals 30 = .int .i64 c4:=hd 30 (by decide)
   have r31 : (fun v w1 => ∃ g,v = .slice (some ⟨g,0,none⟩) 5 5 ∧ Blk w1 g 3 #[.int .i64 c0,.int .i64 c1,.int .i64 c2,.int .i64 c3,.int .i64 c4]) (vals 31) w1:=hd 31 (by decide)
   dsimp only at r31
   clear hd ha
   simp only [Lf,dstAt,Act.put,FR_]
   obtain ⟨g,h1,h2⟩:=r31
   simp only [h1]
   go_wp2_with fail
   refine (or_any [c0,c1,c2,c3,c4] g 5 5 _ rfl (by omega) (h2.ints rfl)).mono ?_
   rintro e w2 ⟨rfl,rfl⟩
   go_wp2
   exact q_
 intro vals w5 hx hf
 have e32 : vals 32 = .int .i64 (orL [c0,c1,c2,c3,c4]):=hf 32 (by omega)
 clear hf
 have hB5 : Below w.heap.size w w5:=bl_then hB hx.undrew
 refine tail1 33 _ (by kernel_rfl) (by kernel_rfl) rfl ?_
 simp only [Lf,dstAt,Act.put,FR_]
 rw [e32]
 go_wp2
 go_ret
 exact ⟨rfl,hB5⟩
theorem ecompare_x (x y : Pas) (w : World) : Calls Tryz.prog 50 #[.agg (pasCells x).toArray,.agg (pasCells y).toArray] w fun e w' => e = .returned (.int .i64 (cmpPas x y)) ∧ Below w.heap.size w w':=by
 obtain ⟨sa,sn,⟨a,b⟩,⟨c,d⟩⟩:=x
 obtain ⟨sa',sn',⟨a',b'⟩,⟨c',d'⟩⟩:=y
 exact ecompare_any sa sn a b c d sa' sn' a' b' c' d' w
theorem esort_any (base g n c : Nat) (l : List Pas) (w : World) (h : RowS pasCells 6 base 75 g n c w l) (hn : n ≤ 1000000) :
  Calls Tryz.prog 49 #[.slice (some ⟨g,0,none⟩) n c,.func (.func 50) #[] #[]] w
   fun e w' => e = .returned (.tuple #[]) ∧ RowS pasCells 6 base 75 g n c w' (sortP (ltOf cmpPas) l) ∧ w.grownBy w' (some g) :=
 sort_any 50 #[] cmpPas (enters_of Tryz.func50 (by kernel_rfl) rfl) (fun x y w => ecompare_x x y w) sw_pas base g n c hn l w h
def movP (s : St) (o : Orb) : St:={ s with orbit:=o }
def partsE (stns : List Stn) (s : St) : List Str → Option (List Pas)
 | [] => some []
 | x :: r => match passesP [movP s x.orb] stns x.sp,partsE stns s r with
  | some a,some b => some (a ++ b)
  | _,_ => none
def allE (stns : List Stn) (l : List Upd) (sp : Spl) (kn : Int) : List St → Option (List Pas)
 | [] => some []
 | s :: r => match partsE stns s (strE s l sp kn),allE stns l sp kn r with
  | some a,some b => some (a ++ b)
  | _,_ => none
def passesE (sats : List St) (stns : List Stn) (l : List Upd) (sp : Spl) (kn : Int) : Option (List Pas) :=
 if (spanE sp && validE sats l && stnsOK stns) = true then (match allE stns l sp kn sats with
  | none => none
  | some o => if o.length ≤ 64 then some (sortP (ltOf cmpPas) o) else none) else none
theorem passes_le {sats : List St} {stns : List Stn} {s : Spl} {o : List Pas} (h : passesP sats stns s = some o) : o.length ≤ 64:=by
 unfold passesP at h
 split at h
 ·split at h
  ·injection h with h
   rw [← h,length_sortP]
   assumption
  ·cases h
 ·cases h
theorem parts_app (stns : List Stn) (s : St) : ∀ (a b : List Str),partsE stns s (a ++ b) = match partsE stns s a,partsE stns s b with
  | some x,some y => some (x ++ y)
  | _,_ => none:=by
 intro a
 induction a with
 | nil => intro b; rw [List.nil_append,partsE]; cases partsE stns s b <;> simp
 | cons x r ih =>
  intro b
  rw [List.cons_append,partsE,partsE,ih]
  cases passesP [movP s x.orb] stns x.sp with
  | none => rfl
  | some p =>
   cases partsE stns s r with
   | none => rfl
   | some q => cases partsE stns s b <;> simp
theorem parts_le (stns : List Stn) (s : St) : ∀ (l : List Str) (o : List Pas),partsE stns s l = some o → o.length ≤ 64 * l.length:=by
 intro l
 induction l with
 | nil => intro o h; rw [partsE] at h; injection h with h; subst h; simp
 | cons x r ih =>
  intro o h
  rw [partsE] at h
  cases hp : passesP [movP s x.orb] stns x.sp with
  | none => rw [hp] at h; cases h
  | some p =>
   cases hq : partsE stns s r with
   | none => rw [hp,hq] at h; cases h
   | some q =>
    rw [hp,hq] at h
    injection h with h
    have h1:=passes_le hp
    have h2:=ih q hq
    rw [← h,List.length_append,List.length_cons]
    omega
theorem all_app (stns : List Stn) (l : List Upd) (sp : Spl) (kn : Int) : ∀ (a b : List St),allE stns l sp kn (a ++ b) = match allE stns l sp kn a,allE stns l sp kn b with
  | some x,some y => some (x ++ y)
  | _,_ => none:=by
 intro a
 induction a with
 | nil => intro b; rw [List.nil_append,allE]; cases allE stns l sp kn b <;> simp
 | cons x r ih =>
  intro b
  rw [List.cons_append,allE,allE,ih]
  cases partsE stns x (strE x l sp kn) with
  | none => rfl
  | some p =>
   cases allE stns l sp kn r with
   | none => rfl
   | some q => cases allE stns l sp kn b <;> simp
theorem all_le (stns : List Stn) (l : List Upd) (sp : Spl) (kn : Int) (hs : sp.tt - sp.fr ≤ 1440) : ∀ (a : List St) (o : List Pas),allE stns l sp kn a = some o → o.length ≤ 92160 * a.length:=by
 intro a
 induction a with
 | nil => intro o h; rw [allE] at h; injection h with h; subst h; simp
 | cons x r ih =>
  intro o h
  rw [allE] at h
  cases hp : partsE stns x (strE x l sp kn) with
  | none => rw [hp] at h; cases h
  | some p =>
   cases hq : allE stns l sp kn r with
   | none => rw [hp,hq] at h; cases h
   | some q =>
    rw [hp,hq] at h
    injection h with h
    have h1:=parts_le stns x _ _ hp
    have h2:=ih q hq
    have h3:=str_len (orbE x l kn) (sp.tt - sp.fr).toNat sp.fr
    have h4 : (strE x l sp kn).length ≤ 1440:=by
     show (strP (orbE x l kn) sp.fr (sp.tt - sp.fr).toNat).length ≤ 1440
     omega
    rw [← h,List.length_append,List.length_cons]
    omega
theorem pas_app {w : World} (ty : TypeId) (xs ys : List Pas) (v : Value) (base b n c : Nat) (A : Option Addr) (hx : w.ownsRow base 75 6 v xs.length (xs.flatMap pasCells)) (hnil : xs.length = 0 → v = .slice none 0 0) (hy : RA pasCells 6 w b A n c ys) (hn : xs.length + n ≤ 10000000) (hb : base ≤ w.heap.size) :
  ∃ v' w',(Builtin.append_ #[36,36] ty #[v,.slice A n c]).run Tryz.prog w = .ok v' w' ∧ w.grownBy w' v.ownBlock ∧ w'.ownsRow base 75 6 v' (xs ++ ys).length ((xs ++ ys).flatMap pasCells) ∧ ((xs ++ ys).length = 0 → v' = .slice none 0 0) ∧ (∀ q,v'.ownBlock = some q → v.ownBlock = some q ∨ w.heap.size ≤ q):=by
 obtain ⟨i0,hi0,hz0,hz1,hz2⟩:=info_parts info_Pas
 have hl:=hy.len
 rcases Nat.eq_zero_or_pos n with hn0 | hn0
 ·subst hn0
  obtain rfl : ys = []:=List.eq_nil_of_length_eq_zero hl
  rw [List.append_nil]
  refine ⟨v,w,?_,⟨rfl,rfl,rfl,Nat.le_refl _,fun _ _ _ => rfl⟩,hx,hnil,fun q h => .inl h⟩
  rcases hx.2 with ⟨rfl,_⟩ | ⟨g,cap,cur,rfl,_,_,hc,_⟩
  ·cases A <;> simp [Builtin.append_,run_underlying Tryz.underlying36,sizeOf,typeInfo,hi0,Builtin.lenOf,Builtin.firstCells,loadCells,loadCellsFrom]
  ·cases A <;> simp [Builtin.append_,run_underlying Tryz.underlying36,sizeOf,typeInfo,hi0,Builtin.lenOf,Builtin.firstCells,hc,storeCells,loadCells,loadCellsFrom]
 ·obtain ⟨b',o,rfl,_,hc⟩:=hy.rd.2 hn0
  obtain ⟨v',w',h3,h4,h5,h6,h7⟩:=run_append_own_at (P:=Tryz.prog) (w:=w) base 36 ty 75 i0 _ 6 48 Tryz.underlying36 hi0 hz0 hz1 hz2 rfl (by omega) v _ _ hx ⟨b',o,none⟩ n c _ hy.rd.1 (fun j u hu => by rw [Addr.add_lit]; exact hc j u hu) (ones_Pas ys) (by unfold maxLen; omega) (by omega) hb
  refine ⟨v',w',h3,h5,?_,fun h => ?_,fun q hq => ?_⟩
  ·rw [List.length_append,List.flatMap_append,hl]
   exact h4
  ·rw [List.length_append,hl] at h
   omega
  ·rcases h7 with h7 | h7
   ·exact .inl (by rw [← h7]; exact hq)
   ·rw [h7] at hq
    injection hq with hq
    exact .inr (by omega)
end Go.Proofs.YtjidhhfabfnhnaaGreat
namespace Go.Proofs.YtjidhhfabfnhnaaGreat
open Go.RowKit Go.Shelf
attribute [local go_sem] Oper.semAt_some
def EPRet (r : Option (List Pas)) (w : World) (e : Ending) (w' : World) : Prop:=match r with
 | none => e = .returned (.tuple #[.slice none 0 0,.int .i64 360]) ∧ Ext w w'
 | some l => (∃ v,e = .returned (.tuple #[v,.int .i64 0]) ∧ w'.ownsRow w.heap.size 75 6 v l.length (l.flatMap pasCells)) ∧ Ext w w'
structure EJ (w : World) (g10 g11 : Nat) (v : Value) (e : Int) (l : List Pas) (W : World) : Prop where
 k10 : Blk W g10 36 #[v]
 k11 : Blk W g11 41 #[.int .i64 e]
 own : W.ownsRow w.heap.size 75 6 v l.length (l.flatMap pasCells)
 below : Ext w W
theorem ej_own (w : World) (g10 g11 : Nat) (v : Value) (e : Int) (l : List Pas) : OwnFrom w.heap.size (fun (_ : Unit) W => EJ w g10 g11 v e l W):=by
 rintro _ X Y row ⟨k1,k2,k3,k4⟩ hgr hr
 exact ⟨blk_kept k1 hgr hr,blk_kept k2 hgr hr,own_kept k3 hgr hr,k4.grown hgr k4.size (fun k e => (hr k e).1)⟩
structure EI (w : World) (g6 g8 g10 g11 : Nat) (TA : Option Addr) (tn tc : Nat) (a b : Int) (out : List Pas) (Ds : List Nat) (W : World) : Prop where
 k6 : Blk W g6 29 #[.slice TA tn tc]
 k8 : Blk W g8 32 #[.int .i64 a,.int .i64 b]
 row : ∃ v,Blk W g10 36 #[v] ∧ W.ownsRow w.heap.size 75 6 v out.length (out.flatMap pasCells) ∧ (out.length = 0 → v = .slice none 0 0)
 k11 : Blk W g11 41 #[.int .i64 0]
 below : Ext w W
 marks : MarksOK w.heap.size Ds W
theorem EI.ext {w W W' : World} {g6 g8 g10 g11 : Nat} {TA : Option Addr} {tn tc : Nat} {a b : Int} {out : List Pas} {Ds : List Nat} (h : EI w g6 g8 g10 g11 TA tn tc a b out Ds W) (hx : Ext W W') : EI w g6 g8 g10 g11 TA tn tc a b out Ds W':=by
 obtain ⟨v,k1,k2,k3⟩:=h.row
 exact ⟨h.k6.ext hx,h.k8.ext hx,⟨v,k1.ext hx,own_ext k2 hx,k3⟩,h.k11.ext hx,Ext.trans h.below hx,h.marks.ext hx⟩
structure SI (w : World) (g6 g8 g10 g11 g13 : Nat) (P : Array Value) (TA : Option Addr) (tn tc : Nat) (a b : Int) (stns : List Stn) (s : St) (out0 : List Pas) (Ds : List Nat) (v0 : Value) (B0 : Nat) (pre : List BStr) (W : World) : Prop where
 k6 : Blk W g6 29 #[.slice TA tn tc]
 k8 : Blk W g8 32 #[.int .i64 a,.int .i64 b]
 k13 : Blk W g13 53 P
 row : ∃ v p,partsE stns s (pre.map (·.1)) = some p ∧ Blk W g10 36 #[v] ∧ W.ownsRow w.heap.size 75 6 v (out0 ++ p).length ((out0 ++ p).flatMap pasCells) ∧ ((out0 ++ p).length = 0 → v = .slice none 0 0) ∧ (∀ q,v.ownBlock = some q → v0.ownBlock = some q ∨ B0 ≤ q)
 k11 : Blk W g11 41 #[.int .i64 0]
 below : Ext w W
 marks : MarksOK w.heap.size Ds W
 size : B0 ≤ W.heap.size
def SX (w : World) (g10 g11 : Nat) (stns : List Stn) (s : St) (Ds : List Nat) (c : Code) (pre : List BStr) (W : World) : Prop :=
 c = .ret ∧ partsE stns s (pre.map (·.1)) = none ∧ Blk W g10 36 #[.slice none 0 0] ∧ Blk W g11 41 #[.int .i64 360] ∧ Ext w W ∧ MarksOK w.heap.size Ds W
theorem marks_kept {B B0 : Nat} {Ds : List Nat} {X Y : World} {row : Option Nat} (h : MarksOK B Ds X) (hlt : ∀ D ∈ Ds,D < B0) (hgr : X.grownBy Y row) (hr : ∀ r,row = some r → B0 ≤ r ∧ ∃ o : Obj,X.heap[r]? = some o ∧ o.isCells = false) : MarksOK B Ds Y :=
 ⟨h.nodup,fun D hD => ⟨(h.ok D hD).1,(hgr.block D (h.lt D hD) (fun e => by have:=(hr D e.symm).1; have:=hlt D hD; omega)).trans (h.ok D hD).2⟩⟩
theorem si_own {w : World} {g6 g8 g10 g11 g13 : Nat} {P : Array Value} {TA : Option Addr} {tn tc : Nat} {a b : Int} {stns : List Stn} {s : St} {out0 : List Pas} {Ds : List Nat} {v0 : Value} {B0 : Nat} (hw : w.heap.size ≤ B0) (hlt : ∀ D ∈ Ds,D < B0) : OwnFrom B0 (SI w g6 g8 g10 g11 g13 P TA tn tc a b stns s out0 Ds v0 B0):=by
 rintro pre X Y row ⟨k6,k8,k13,⟨v,p,r0,r1,r2,r3,r4⟩,k11,hb,hm,hz⟩ hgr hr
 exact ⟨blk_kept k6 hgr hr,blk_kept k8 hgr hr,blk_kept k13 hgr hr,⟨v,p,r0,blk_kept r1 hgr hr,own_kept r2 hgr hr,r3,r4⟩,blk_kept k11 hgr hr,hb.grown hgr hb.size (fun k e => Nat.le_trans hw (hr k e).1),marks_kept hm hlt hgr hr,Nat.le_trans hz hgr.size⟩
theorem sx_own {w : World} {g10 g11 : Nat} {stns : List Stn} {s : St} {Ds : List Nat} {B0 : Nat} (hw : w.heap.size ≤ B0) (hlt : ∀ D ∈ Ds,D < B0) (c : Code) : OwnFrom B0 (SX w g10 g11 stns s Ds c):=by
 rintro pre X Y row ⟨h0,h1,k1,k2,hb,hm⟩ hgr hr
 exact ⟨h0,h1,blk_kept k1 hgr hr,blk_kept k2 hgr hr,hb.grown hgr hb.size (fun k e => Nat.le_trans hw (hr k e).1),marks_kept hm hlt hgr hr⟩
theorem wpListIn_store_st {F : Fence} {n : Nat} {P : Program} {ops : Array Oper} {rest : List Oper} {op : Oper} {a : Act} {w : World} {Q : Exit → Act → World → Prop} (hgd : op.guard = none) (ty : TypeId) (x y : Operand) (ho : op.op = .store ty x y)
  (b o : Nat) (X : Array Value) (cs : List Value) (hX : cs.toArray = X) (hx : a.eval x = .pointer (some ⟨b,o,none⟩)) (hy : a.eval y = .agg X)
  (ht : w.there b o cs.length) (hi : (P.info? ty).map (·.size) = some cs.length) (h1 : ∀ v ∈ cs,v.oneCell' = true)
  (h : wpListIn F n P ops Q rest (a.put op.dst undef) (w.setCells b o cs)) : wpListIn F n P ops Q (op :: rest) a w:=by
 subst hX
 refine wpListIn_plain hgd fun K hK => ?_
 unfold Oper.wpIn
 refine ⟨?_,?_⟩
 ·simp [Oper.about,ho]
 ·rw [Oper.semAt_plain F _ _ (by rw [ho]; intro c hc'; cases hc')]
  unfold execOp
  simp only [ho,hx,hy,Instr.storeAt,Instr.sureAddr,Sem.run_bind,Sem.run_pure,Result.andThen_ok,run_storeVar_mid (P:=P) w b o ty cs.toArray (by simpa using ht) (by simpa using hi) (all_oneCell_toArray h1)]
  exact hK _ _ (by simpa using h)
theorem Blk.there_ {w : World} {g : Nat} {t : TypeId} {X : Array Value} (h : Blk w g t X) (o k : Nat) (hk : o + k ≤ X.size) : w.there g o k:=fun j hj => by
 refine ⟨?_,h.frozen _⟩
 rw [h.cell,Array.getElem?_eq_getElem (by omega)]
 simp
theorem mov_blk {w : World} {g : Nat} (s : St) (o : Orb) (h : Blk w g 53 (satCells s).toArray) : Blk (w.setCells g 2 (orbCells o)) g 53 (satCells (movP s o)).toArray:=by
 obtain ⟨p,f,lo,hi,no,tu,sl⟩:=o
 obtain ⟨id,ow,⟨p',f',lo',hi',no',tu',sl'⟩,wi,st,ch,su,idl,sh,se,wa,co,ho,sw,ra⟩:=s
 have h2:=((((((h.set_ 2 (.int .i64 p)).set_ 3 (.int .i64 f)).set_ 4 (.int .i64 lo)).set_ 5 (.int .i64 hi)).set_ 6 (.int .i64 no)).set_ 7 (.int .i64 tu)).set_ 8 (.int .i64 sl)
 simp only [satCells,List.setIfInBounds_toArray,List.set_cons_zero,List.set_cons_succ] at h2
 exact h2
theorem ext_setCells {A : World} {g : Nat} (hg : A.heap.size ≤ g) : ∀ (cs : List Value) (o : Nat) (W : World),Ext A W → Ext A (W.setCells g o cs):=by
 intro cs
 induction cs with
 | nil => intro o W h; exact h
 | cons v r ih => intro o W h; exact ih (o + 1) _ (h.setCell (p:=⟨g,o,none⟩) hg v)
theorem ko_ext {X Y : World} (h : Ext X Y) : KeepsOthers X Y:=⟨h.size,fun j _ hj _ => (h.block j (Array.getElem?_eq_some_iff.1 hj).1).trans hj⟩
theorem parts_stop {stns : List Stn} {s : St} {pre xs : List Str} (h : pre <+: xs) (hn : partsE stns s pre = none) : partsE stns s xs = none:=by
 obtain ⟨r,rfl⟩:=h
 rw [parts_app,hn]
theorem all_stop {stns : List Stn} {l : List Upd} {sp : Spl} {kn : Int} {sats : List St} {k : Nat} (hk : k < sats.length) (h : partsE stns sats[k] (strE sats[k] l sp kn) = none) : allE stns l sp kn sats = none:=by
 have e : sats = sats.take k ++ (sats[k] :: sats.drop (k + 1)):=by simp
 rw [e,all_app,allE]
 simp only [h] at *
 cases allE stns l sp kn (sats.take k) <;> simp_all
theorem orb_ones (o : Orb) : ∀ u ∈ orbCells o,u.oneCell' = true:=by simp [orbCells,Value.oneCell']
end Go.Proofs.YtjidhhfabfnhnaaGreat
