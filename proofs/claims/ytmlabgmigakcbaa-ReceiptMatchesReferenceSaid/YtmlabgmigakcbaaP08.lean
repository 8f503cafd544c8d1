/- Fates: the walk. -/
import Derived.Test.YtmlabgmigakcbaaP07
import Derived.Test.YtmlabgmigakcbaaP05
import Derived.Deep.CutBlock
namespace Go.Proofs.Ytmlabgmigakcbaa
open Go.RowKit
def finP (now : Int) (l : List Slt) (id : Int) (p : Nat × List Dsc) : FteP × List Dsc := (fateE now l id p.1, p.2)
def FateRet (x : FteP × List Dsc) (B gd : Nat) (w : World) (e : Ending) (w' : World) : Prop := ∃ A c, e = .returned (.agg #[.int .i64 x.1.im, .int .i64 x.1.st, .slice A x.1.l.length c, .int .i64 x.1.fr, .int .i64 x.1.tt]) ∧ OwnN w' w.heap.size (.slice A x.1.l.length c) x.1.l ∧ DS w' gd B x.2 ∧ Tel B gd w w'
theorem ra_tel {α : Type} {cells : α → List Value} {s B gd n c : Nat} {w w' : World} {A : Option Addr} {l : List α} (h : RA cells s w B A n c l) (k : Tel B gd w w') : RA cells s w' B A n c l := h.below k.bl
set_option maxRecDepth 100000 in
set_option maxHeartbeats 8000000 in
theorem fate_any (o : Opt) (ps : List Pas) (f : Int → Option Int) (now : Int) (rs : List Rcp) (ns : List Nte) (ds : List Dsc) (PA QA NA : Option Addr) (pn pc qn qc nn nc gm gd B : Nat) (w : World) (hBw : B ≤ w.heap.size) (hBd : B ≤ gd) (ho : RA sltCells 3 w B o.a o.n o.c o.l) (hp : RA pasCells 6 w B PA pn pc ps) (hq : RA rcpCells 3 w B QA qn qc rs) (hn : RA nteCells 3 w B NA nn nc ns) (hm : MapI w gm (iM f)) (hmd : gm ≠ gd) (hd : DS w gd B ds) (hs : SlOK ps o.l) (hf : SkOK f) (hqn : qn ≤ 1000) (hnn : nn ≤ 1000) (hdl : ds.length ≤ 90000) :
  Calls Try.prog 51 #[.agg #[.slice PA pn pc, .map (some gm), .int .i64 now], .agg (optCells o).toArray, .slice QA qn qc, .slice NA nn nc, .func (.func 47) #[] #[.pointer (some ⟨gd, 0, none⟩)]] w (FateRet (fateP (fitsP ps f now o.id o.l) now o.l o.id rs ns ds) B gd w) := by
 have hFIT : ∀ (r : Rcp) (W : World), Tel B gd w W → Calls Try.prog 50 #[.agg #[.slice PA pn pc, .map (some gm), .int .i64 now], .agg (optCells o).toArray, .agg (rcpCells r).toArray] W fun e w' => e = .returned (.int .u64 (fitsP ps f now o.id o.l r : Nat)) ∧ Ext W w' := fun r W hW =>
  fits_any o ps f now r PA pn pc gm W ((ra_tel ho hW).more (Nat.le_trans hBw hW.size)) ((ra_tel hp hW).more (Nat.le_trans hBw hW.size)) (hm.tel hW hmd) hs hf
 have hQL : ∀ r, LB o.n (fitsP ps f now o.id o.l r) := fun r => fitsP_lb hs ho.len
 obtain ⟨q, hqq⟩ : ∃ q, q = fitsP ps f now o.id o.l := ⟨_, rfl⟩
 rw [← hqq] at hFIT hQL ⊢
 obtain ⟨id, i1, i2, i3, i4, i5, i6, i7, a, n, c, l⟩ := o
 dsimp only at ho hs hFIT hQL ⊢
 have hn6 : n ≤ 6 := by have := hs.len; have := ho.len; omega
 have hgdl : gd < w.heap.size := by obtain ⟨v, h1, _⟩ := hd; exact h1.lt
 obtain ⟨fin, hfin⟩ : ∃ x, x = fateP q now l id rs ns ds := ⟨_, rfl⟩
 rw [← hfin]
 have HFIN := Lib.hid hfin
 have HFIT := Lib.hid hFIT
 have HQL := Lib.hid hQL
 have HO := Lib.hid ho
 have HL := Lib.hid ho.len
 have HQ := Lib.hid hq
 have HQN := Lib.hid hq.len
 have HN := Lib.hid hn
 have HNN := Lib.hid hn.len
 have HS := Lib.hid hs
 have HD := Lib.hid hd
 clear hqq hfin hFIT hQL ho hp hq hn hm hmd hd hs hf
 show Calls Try.prog 51 #[.agg #[.slice PA pn pc, .map (some gm), .int .i64 now], .agg #[.int .i64 id, .int .i64 i1, .int .i64 i2, .int .i64 i3, .int .i64 i4, .int .i64 i5, .int .i64 i6, .int .i64 i7, .slice a n c], .slice QA qn qc, .slice NA nn nc, .func (.func 47) #[] #[.pointer (some ⟨gd, 0, none⟩)]] w _
 go_enter Try.func51, Try.ntmps51
 go_upto_region 1 with (fail)
 obtain ⟨W1, hW1⟩ : ∃ W, W = ((w.alloc (.cells #[.slice PA pn pc, .map (some gm), .int .i64 now] 104)).alloc (.cells #[.int .i64 id, .int .i64 i1, .int .i64 i2, .int .i64 i3, .int .i64 i4, .int .i64 i5, .int .i64 i6, .int .i64 i7, .slice a n c] 32)).alloc (.cells #[.int .i64 0, .int .i64 0, .slice none 0 0, .int .i64 0, .int .i64 0] 76) := ⟨_, rfl⟩
 rw [← hW1]
 obtain ⟨J0, J1, J2, hx1⟩ := al3 w W1 _ _ _ _ _ _ hW1
 clear hW1
 have hgd5 : w.heap.size + 1 + 1 ≠ gd := by omega
 have hgd6 : w.heap.size + 1 ≠ gd := by omega
 have hw10 : w.heap.size ≤ w.heap.size + 1 + 1 := by omega
 generalize w.heap.size + 1 + 1 = g10 at J2 hgd5 hw10 ⊢
 generalize w.heap.size + 1 = g6 at J1 hgd6 ⊢
 obtain ⟨g5, hg5⟩ : ∃ g, g = w.heap.size := ⟨_, rfl⟩
 have hgd7 : g5 ≠ gd := by omega
 rw [← hg5] at J0 ⊢
 clear hg5
 have hT1 : Tel B gd w W1 := .of_ext hx1 hBw
 have HJ5 := Lib.hid J0
 have HJ6 := Lib.hid J1
 have HJ10 := Lib.hid J2
 have HD1 := Lib.hid (HD.out.ext hx1)
 have HR0 : Hid (recvP q id 0 0 ds rs = recvP q id 0 0 ds (rs.drop 0)) := Lib.hid rfl
 have HX1 := Lib.hid hx1
 clear J0 J1 J2 hx1 HD
 go_wp2_with fail
 go_loopw [11, 25] (fun y z wr => ∃ (k left : Nat) (ds' : List Dsc), k ≤ qn ∧ z = .int .i64 k ∧ y = .int .u64 left ∧ LB n left ∧ Hid (recvP q id 0 0 ds rs = recvP q id k left ds' (rs.drop k)) ∧ Hid (DS wr gd B ds') ∧ ds'.length ≤ 90000 + k ∧ Tel B gd W1 wr) (fun _ z _ => qn - (intOf z).toNat)
 case atStart => exact ⟨0, 0, ds, Nat.zero_le _, rfl, rfl, LB.zero n, HR0, HD1, by omega, Tel.refl _ _ _⟩
 case round =>
  clear HR0 HD1
  obtain ⟨k, left, ds', hk, rfl, rfl, hlt, HR, HD, hdl', hT⟩ := hrel
  by_cases hkq : k < qn
  ·obtain ⟨b, ob, hz, hA, hbB, hc⟩ := (ra_tel HQ.out (hT1.trans hT)).at_ rcp_len hkq
   have hst := HR.out
   rw [List.drop_eq_getElem_cons hz, recvP_cons] at hst
   have hfit := HFIT.out rs[k]
   have hql := HQL.out rs[k]
   generalize rs[k] = r at hst hc hfit hql
   generalize q r = S at hst hfit hql
   obtain ⟨rsn, rim, rat⟩ := r
   have c0 : wr.cell? ⟨b, ob + k * 3, none⟩ = some (.int .i64 rsn) := hc 0 (by omega)
   have c1 : wr.cell? ⟨b, ob + k * 3 + 1, none⟩ = some (.int .i64 rim) := hc 1 (by omega)
   have c2 : wr.cell? ⟨b, ob + k * 3 + 2, none⟩ = some (.int .i64 rat) := hc 2 (by omega)
   subst hA
   have HST := Lib.hid hst
   have HF2 := Lib.hid hfit
   clear hst hc hz HR hfit
   go_upto_region 5 with (fail)
   have hya : Ext wr (wr.alloc (.cells #[.int .i64 rsn, .int .i64 rim, .int .i64 rat] 63)) := bl_alloc (Below.refl _ _) _
   have J := Blk.new wr 63 #[.int .i64 rsn, .int .i64 rim, .int .i64 rat]
   have hBr : B ≤ wr.heap.size := Nat.le_trans hBw (hT1.trans hT).size
   have hT5 := hT.then_ext hya (Nat.le_trans hBw hT1.size)
   obtain ⟨g13, hg13⟩ : ∃ g, g = wr.heap.size := ⟨_, rfl⟩
   rw [← hg13] at J ⊢
   clear hg13
   generalize wr.alloc (.cells #[.int .i64 rsn, .int .i64 rim, .int .i64 rat] 63) = W5 at hya J hT5 ⊢
   have HD5 := Lib.hid (HD.out.ext hya)
   have hJ5 := HJ5.out.tel hT5 (by decide) hgd7
   have hJ6 := HJ6.out.tel hT5 (by decide) hgd6
   have t0 : W5.cell? ⟨g5, 0, none⟩ = some (.slice PA pn pc) := hJ5.cell 0
   have t1 : W5.cell? ⟨g5, 1, none⟩ = some (.map (some gm)) := hJ5.cell 1
   have t2 : W5.cell? ⟨g5, 2, none⟩ = some (.int .i64 now) := hJ5.cell 2
   have d0 : W5.cell? ⟨g6, 0, none⟩ = some (.int .i64 id) := hJ6.cell 0
   have d1 : W5.cell? ⟨g6, 1, none⟩ = some (.int .i64 i1) := hJ6.cell 1
   have d2 : W5.cell? ⟨g6, 2, none⟩ = some (.int .i64 i2) := hJ6.cell 2
   have d3 : W5.cell? ⟨g6, 3, none⟩ = some (.int .i64 i3) := hJ6.cell 3
   have d4 : W5.cell? ⟨g6, 4, none⟩ = some (.int .i64 i4) := hJ6.cell 4
   have d5 : W5.cell? ⟨g6, 5, none⟩ = some (.int .i64 i5) := hJ6.cell 5
   have d6 : W5.cell? ⟨g6, 6, none⟩ = some (.int .i64 i6) := hJ6.cell 6
   have d7 : W5.cell? ⟨g6, 7, none⟩ = some (.int .i64 i7) := hJ6.cell 7
   have d8 : W5.cell? ⟨g6, 8, none⟩ = some (.slice a n c) := hJ6.cell 8
   have r0 : W5.cell? ⟨g13, 0, none⟩ = some (.int .i64 rsn) := J.cell 0
   have r1 : W5.cell? ⟨g13, 1, none⟩ = some (.int .i64 rim) := J.cell 1
   have r2 : W5.cell? ⟨g13, 2, none⟩ = some (.int .i64 rat) := J.cell 2
   have HC := Lib.hid (HF2.out W5 (hT1.trans hT5))
   clear c0 c1 c2 hya hJ5 hJ6 J HF2 HD hT
   go_wp2_with fail
   refine HC.out.mono ?_
   rintro e W6 ⟨rfl, hy⟩
   have hT6 := hT5.then_ext hy (Nat.le_trans hBw hT1.size)
   have HD6 := Lib.hid (HD5.out.ext hy)
   clear t0 t1 t2 d0 d1 d2 d3 d4 d5 d6 d7 d8 r0 r1 r2 hy HC HD5 hT5
   by_cases hS0 : S = 0
   ·have HN2 : Hid (recvP q id 0 0 ds rs = recvP q id (k + 1) left ds' (rs.drop (k + 1))) := Lib.hid (by rw [HST.out, if_pos hS0])
    clear HST
    subst hS0
    go_wp2_with fail
    go_roundw
    case rel => exact ⟨k + 1, left, ds', by omega, by go_num, rfl, hlt, HN2, HD6, by omega, hT6⟩
    case measure => simp [intOf]; omega
   ·have hS0b : ((S : Int) == 0) = false := by simpa using hS0
    have hS0c : ¬ (S : Int) = 0 := by omega
    by_cases hl0 : left = 0
    ·have HN2 : Hid (recvP q id 0 0 ds rs = recvP q id (k + 1) S ds' (rs.drop (k + 1))) := Lib.hid (by rw [HST.out, if_neg hS0, if_pos hl0])
     clear HST
     subst hl0
     go_wp2_with fail
     go_roundw
     case rel => exact ⟨k + 1, S, ds', by omega, by go_num, rfl, hql, HN2, HD6, by omega, hT6⟩
     case measure => simp [intOf]; omega
    ·have hl0b : ((left : Int) == 0) = false := by simpa using hl0
     have hl0c : ¬ (left : Int) = 0 := by omega
     have hand := and_u64 ⟨left, hlt.1⟩ ⟨S, hql.1⟩
     have hal := hlt.and_ S
     dsimp only at hand
     have hst := HST.out
     rw [if_neg hS0, if_neg hl0] at hst
     generalize left &&& S = T at hand hal hst
     have HST2 := Lib.hid hst
     clear hst HST
     by_cases hT0 : T = 0
     ·have HN2 : Hid (recvP q id 0 0 ds rs = recvP q id (k + 1) left (ds' ++ [⟨2, id, k⟩]) (rs.drop (k + 1))) := Lib.hid (by rw [HST2.out, if_pos hT0])
      clear HST2
      subst hT0
      have hJ6 := HJ6.out.tel hT6 (by decide) hgd6
      have d0 : W6.cell? ⟨g6, 0, none⟩ = some (.int .i64 id) := hJ6.cell 0
      have HC := Lib.hid (tell_any 2 id k gd B ds' W6 HD6.out hBd (by omega))
      clear hJ6 HD6
      go_wp2_with fail
      refine HC.out.mono ?_
      rintro e W7 ⟨rfl, hd7, hT67⟩
      have hT7 := hT6.trans hT67
      have HD7 := Lib.hid hd7
      clear d0 HC hd7 hT67 hT6
      go_wp2_with fail
      go_roundw
      case rel => exact ⟨k + 1, left, _, by omega, by go_num, rfl, hlt, HN2, HD7, by simp; omega, hT7⟩
      case measure => simp [intOf]; omega
     ·have hT0b : ((T : Int) == 0) = false := by simpa using hT0
      have hT0c : ¬ (T : Int) = 0 := by omega
      have HN2 : Hid (recvP q id 0 0 ds rs = recvP q id (k + 1) T ds' (rs.drop (k + 1))) := Lib.hid (by rw [HST2.out, if_neg hT0])
      clear HST2
      go_wp2_with fail
      go_roundw
      case rel => exact ⟨k + 1, T, ds', by omega, by go_num, rfl, hal, HN2, HD6, by omega, hT6⟩
      case measure => simp [intOf]; omega
  ·have hst := HR.out
   rw [List.drop_of_length_le (by rw [HQN.out]; omega), recvP] at hst
   have hfn := HFIN.out
   unfold fateP at hfn
   rw [hst] at hfn
   have HV0 : Hid (fin = finP now l id (noteP now l id 0 left 0 false ds' (ns.drop 0))) := Lib.hid hfn
   clear hst hfn HR HFIN HQ HQN HQL HFIT
   go_upto_block 3 with fail
   go_cut [11, 15, 16, 17, 18, 19] from 57 to 128 (fun x y v a1 a2 a3 wc => ∃ (left : Nat) (dsf : List Dsc), x = .int .u64 left ∧ LB n left ∧ Hid (fin = finP now l id (left, dsf)) ∧ Hid (DS wc gd B dsf) ∧ Tel B gd W1 wc)
   case first =>
    go_wp2_with fail
    go_loopw [11, 15, 16, 57] (fun x y v z wr => ∃ (k left slot : Nat) (done : Bool) (ds2 : List Dsc), k ≤ nn ∧ z = .int .i64 k ∧ x = .int .u64 left ∧ LB n left ∧ y = .int .i64 slot ∧ slot ≤ n ∧ v = .bool done ∧ Hid (fin = finP now l id (noteP now l id k left slot done ds2 (ns.drop k))) ∧ Hid (DS wr gd B ds2) ∧ ds2.length ≤ 91000 + k ∧ Tel B gd W1 wr) (fun _ _ _ z _ => nn - (intOf z).toNat)
    case atStart => exact ⟨0, left, 0, false, ds', Nat.zero_le _, rfl, rfl, hlt, rfl, Nat.zero_le _, rfl, HV0, HD, by omega, hT⟩
    case round =>
     clear HV0 HD hT hlt
     obtain ⟨k, left, slot, done, ds2, hk, rfl, rfl, hlt, rfl, hsn, rfl, HV, HD, hdl2, hT⟩ := hrel
     by_cases hkn : k < nn
     ·obtain ⟨b, ob, hz, hA, hbB, hc⟩ := (ra_tel HN.out (hT1.trans hT)).at_ nte_len hkn
      have hst := HV.out
      rw [List.drop_eq_getElem_cons hz, noteP_cons] at hst
      generalize ns[k] = nt at hst hc
      obtain ⟨nim, nsl, nis⟩ := nt
      dsimp only at hst
      have c0 : wr.cell? ⟨b, ob + k * 3, none⟩ = some (.int .i64 nim) := hc 0 (by omega)
      have c1 : wr.cell? ⟨b, ob + k * 3 + 1, none⟩ = some (.int .i64 nsl) := hc 1 (by omega)
      have c2 : wr.cell? ⟨b, ob + k * 3 + 2, none⟩ = some (.bool nis) := hc 2 (by omega)
      subst hA
      have HST := Lib.hid hst
      clear hst hc hz HV
      go_upto_region 17 with (fail)
      have hya : Ext wr (wr.alloc (.cells #[.int .i64 nim, .int .i64 nsl, .bool nis] 89)) := bl_alloc (Below.refl _ _) _
      have J := Blk.new wr 89 #[.int .i64 nim, .int .i64 nsl, .bool nis]
      have hgdw : gd < wr.heap.size := Nat.lt_of_lt_of_le hgdl (hT1.trans hT).size
      have hT5 := hT.then_ext hya (Nat.le_trans hBw hT1.size)
      obtain ⟨g18, hg18⟩ : ∃ g, g = wr.heap.size := ⟨_, rfl⟩
      have hg18d : g18 ≠ gd := by omega
      rw [← hg18] at J ⊢
      clear hg18
      generalize wr.alloc (.cells #[.int .i64 nim, .int .i64 nsl, .bool nis] 89) = W5 at hya J hT5 ⊢
      have HD5 := Lib.hid (HD.out.ext hya)
      have hJ5 := HJ5.out.tel hT5 (by decide) hgd7
      have hJ6 := HJ6.out.tel hT5 (by decide) hgd6
      have t2 : W5.cell? ⟨g5, 2, none⟩ = some (.int .i64 now) := hJ5.cell 2
      have d0 : W5.cell? ⟨g6, 0, none⟩ = some (.int .i64 id) := hJ6.cell 0
      have d8 : W5.cell? ⟨g6, 8, none⟩ = some (.slice a n c) := hJ6.cell 8
      have n0 : W5.cell? ⟨g18, 0, none⟩ = some (.int .i64 nim) := J.cell 0
      have n1 : W5.cell? ⟨g18, 1, none⟩ = some (.int .i64 nsl) := J.cell 1
      have n2 : W5.cell? ⟨g18, 2, none⟩ = some (.bool nis) := J.cell 2
      have HJ18 := Lib.hid J
      clear c0 c1 c2 hya hJ5 hJ6 J HD hT hgdw
      by_cases him : nim = id
      ·have him1 : (nim == id) = true := by simpa using him
       have him2 : (nim != id) = false := by simpa using him
       have hst := HST.out
       rw [if_neg (by simpa using him)] at hst
       have HST := Lib.hid hst
       clear hst
       have him' := him.symm
       subst him'
       clear him
       go_upto_region 18 with (fail)
       cases done
       ·by_cases hs1 : nsl = (slot : Int)
        ·subst hs1
         by_cases hs2 : slot < n
         ·obtain ⟨b', o', hzs, hA', hbB', hcs⟩ := (ra_tel HO.out (hT1.trans hT5)).at_ slt_len hs2
          have e8 : W5.cell? ⟨b', o' + slot * 3 + 2, none⟩ = some (.int .i64 (ttAt l slot)) := by
           have h := hcs 2 (by omega)
           rw [h]
           unfold ttAt
           rw [List.getElem?_eq_getElem hzs]
           rfl
          subst hA'
          have hs2a : (slot : Int) < (n : Int) := by omega
          have hs2b : decide ((n : Int) ≤ (slot : Int)) = false := by simpa using hs2
          have hs0 : (0 : Int) ≤ (slot : Int) := by omega
          have hself : ((slot : Int) != (slot : Int)) = false := by simp
          have hself2 : ((slot : Int) == (slot : Int)) = true := by simp
          clear hcs hzs
          obtain ⟨tq, htq⟩ : ∃ t, t = ttAt l slot := ⟨_, rfl⟩
          rw [← htq] at e8
          have HTQ := Lib.hid htq
          clear htq
          by_cases hs3 : now < tq
          ·have hs3b : decide (now < tq) = true := by simpa using hs3
           have HN2 : Hid (fin = finP now l id (left, ds2 ++ [⟨3, id, k⟩])) := Lib.hid (by rw [HST.out, if_pos (.inr (.inr (.inr (by rw [← HTQ.out]; exact hs3))))])
           clear HST
           go_quiet (fail)
           have hJ6 := HJ6.out.tel hT5 (by decide) hgd6
           have d0 : (W5.drewN nq).cell? ⟨g6, 0, none⟩ = some (.int .i64 id) := hJ6.cell 0
           have hx5 : Ext W5 (W5.drewN nq) := (by repeat (first | exact Below.refl _ _ | assumption | refine Below.drew ?_ | refine below_drewN ?_ _ | refine bl_alloc ?_ _ | refine Below.setCell ?_ (by first | (simp; done) | omega | (simp; omega)) _ | refine bl_then ?_ (by assumption)))
           have hT5' := hT5.then_ext hx5 (Nat.le_trans hBw hT1.size)
           have HC := Lib.hid (tell_any 3 id k gd B ds2 (W5.drewN nq) (HD5.out.ext hx5) hBd (by omega))
           go_wp2_with fail
           refine HC.out.mono ?_
           rintro e W7 ⟨rfl, hd7, hT67⟩
           have hT := hT5'.trans hT67
           have HD := Lib.hid hd7
           have HF := HN2
           have hdlf : (ds2 ++ [(⟨3, id, k⟩ : Dsc)]).length ≤ 100000 := by simp; omega
           generalize ds2 ++ [(⟨3, id, k⟩ : Dsc)] = dsf at HF HD hdlf
           clear d0 HC hd7 hT67 hJ6 hT5 HD5 HN2 hT5' hx5 n1 e8
           obtain ⟨wr, hwr⟩ : ∃ W, W = W7 := ⟨_, rfl⟩
           rw [← hwr] at hT HD ⊢
           clear hwr
           go_wp2_with fail
           go_meet
           exact ⟨left, dsf, rfl, hlt, HF, HD, hT⟩
          ·have hs3b : decide (now < tq) = false := by simpa using hs3
           have hst := HST.out
           rw [if_neg (by rw [HL.out, ← HTQ.out]; simp; omega)] at hst
           have hk6 : slot < 6 := by omega
           have han := andnot_u64 ⟨left, hlt.1⟩ ⟨slot, hk6⟩
           have hand := and_u64 ⟨left, hlt.1⟩ ⟨2 ^ slot, Nat.lt_of_lt_of_le (Nat.pow_lt_pow_right (by decide) hk6) (by decide : 2 ^ 6 ≤ 64)⟩
           dsimp only at han hand
           rw [show ((2 ^ slot : Nat) : Int) = (2 : Int) ^ slot by simp] at hand
           have hp1 : (1 : Int) ≤ (2 : Int) ^ slot := by
            have : 1 ≤ 2 ^ slot := Nat.one_le_two_pow
            have h2 : ((2 : Int) ^ slot) = ((2 ^ slot : Nat) : Int) := by simp
            omega
           have hp2 : (2 : Int) ^ slot ≤ 64 := by
            have : 2 ^ slot < 2 ^ 6 := Nat.pow_lt_pow_right (by decide) hk6
            have h2 : ((2 : Int) ^ slot) = ((2 ^ slot : Nat) : Int) := by simp
            omega
           have hc1 : LB n (clrB left slot) := hlt.and_ _
           have hc2 : LB n (left &&& 2 ^ slot) := hlt.and_ _
           clear HST
           go_quiet (fail)
           have n2' : (W5.drewN nq).cell? ⟨g18, 2, none⟩ = some (.bool nis) := n2
           cases nis
           ·rw [show nextP false left slot = clrB left slot from rfl] at hst
            generalize clrB left slot = nx at hst han hc1
            have HST3 := Lib.hid hst
            have hnl : LB n nx := hc1
            clear hst
            by_cases hx0 : nx = 0
            ·subst hx0
             by_cases hl0 : left = 0
             ·subst hl0
              have HN2 : Hid (fin = finP now l id (noteP now l id (k + 1) 0 (slot + 1) false ds2 (ns.drop (k + 1)))) := Lib.hid (by rw [HST3.out, if_neg (by simp [])])
              clear HST3
              go_wp2_with fail
              go_quiet (fail)
              go_wp2_with fail
              go_roundw
              case rel => exact ⟨k + 1, 0, slot + 1, false, ds2, by omega, by go_num, rfl, hnl, by go_num, by omega, rfl, HN2, Lib.hid (HD5.out.ext (by repeat (first | exact Below.refl _ _ | assumption | refine Below.drew ?_ | refine below_drewN ?_ _ | refine bl_alloc ?_ _ | refine Below.setCell ?_ (by first | (simp; done) | omega | (simp; omega)) _ | refine bl_then ?_ (by assumption)))), by omega, hT5.then_ext (by repeat (first | exact Below.refl _ _ | assumption | refine Below.drew ?_ | refine below_drewN ?_ _ | refine bl_alloc ?_ _ | refine Below.setCell ?_ (by first | (simp; done) | omega | (simp; omega)) _ | refine bl_then ?_ (by assumption))) (Nat.le_trans hBw hT1.size)⟩
              case measure => simp [intOf]; omega
             ·have hl0b : ((left : Int) != 0) = true := by simpa using hl0
              have hl0c : ((left : Int) == 0) = false := by simpa using hl0
              have hl0d : ¬ (left : Int) = 0 := by omega
              have HN2 : Hid (fin = finP now l id (noteP now l id (k + 1) left (slot + 1) false (ds2 ++ [⟨4, id, k⟩]) (ns.drop (k + 1)))) := Lib.hid (by rw [HST3.out, if_pos (by simp [hl0])])
              clear HST3
              have hJ6 := HJ6.out.tel hT5 (by decide) hgd6
              have d0 : W5.cell? ⟨g6, 0, none⟩ = some (.int .i64 id) := hJ6.cell 0
              have d0' : (W5.drewN nq).cell? ⟨g6, 0, none⟩ = some (.int .i64 id) := d0
              have hx5 : Ext W5 (W5.drewN nq) := (by repeat (first | exact Below.refl _ _ | assumption | refine Below.drew ?_ | refine below_drewN ?_ _ | refine bl_alloc ?_ _ | refine Below.setCell ?_ (by first | (simp; done) | omega | (simp; omega)) _ | refine bl_then ?_ (by assumption)))
              have hT5' := hT5.then_ext hx5 (Nat.le_trans hBw hT1.size)
              have HC := Lib.hid (tell_any 4 id k gd B ds2 (W5.drewN nq) (HD5.out.ext hx5) hBd (by omega))
              go_wp2_with fail
              refine HC.out.mono ?_
              rintro e W7 ⟨rfl, hd7, hT67⟩
              have hT7 := hT5'.trans hT67
              have HD7 := Lib.hid hd7
              have hJ18 := (HJ18.out.ext hx5).tel hT67 (by decide) hg18d
              have n2 : W7.cell? ⟨g18, 2, none⟩ = some (.bool false) := hJ18.cell 2
              clear d0 d0' HC hd7 hT67 hJ6 hJ18 hT5 HD5
              go_wp2_with fail
              go_quiet (fail)
              go_wp2_with fail
              go_roundw
              case rel => exact ⟨k + 1, left, slot + 1, false, _, by omega, by go_num, rfl, hlt, by go_num, by omega, rfl, HN2, Lib.hid (HD7.out.ext (by repeat (first | exact Below.refl _ _ | assumption | refine Below.drew ?_ | refine below_drewN ?_ _ | refine bl_alloc ?_ _ | refine Below.setCell ?_ (by first | (simp; done) | omega | (simp; omega)) _ | refine bl_then ?_ (by assumption)))), by simp; omega, hT7.then_ext (by repeat (first | exact Below.refl _ _ | assumption | refine Below.drew ?_ | refine below_drewN ?_ _ | refine bl_alloc ?_ _ | refine Below.setCell ?_ (by first | (simp; done) | omega | (simp; omega)) _ | refine bl_then ?_ (by assumption))) (Nat.le_trans hBw hT1.size)⟩
              case measure => simp [intOf]; omega
            ·have hx0b : ((nx : Int) == 0) = false := by simpa using hx0
             have hx0d : ¬ (nx : Int) = 0 := by omega
             have HN2 : Hid (fin = finP now l id (noteP now l id (k + 1) nx (slot + 1) false ds2 (ns.drop (k + 1)))) := Lib.hid (by rw [HST3.out, if_neg (by simp [hx0])])
             clear HST3
             go_wp2_with fail
             go_quiet (fail)
             go_wp2_with fail
             go_roundw
             case rel => exact ⟨k + 1, nx, slot + 1, false, ds2, by omega, by go_num, rfl, hnl, by go_num, by omega, rfl, HN2, Lib.hid (HD5.out.ext (by repeat (first | exact Below.refl _ _ | assumption | refine Below.drew ?_ | refine below_drewN ?_ _ | refine bl_alloc ?_ _ | refine Below.setCell ?_ (by first | (simp; done) | omega | (simp; omega)) _ | refine bl_then ?_ (by assumption)))), by omega, hT5.then_ext (by repeat (first | exact Below.refl _ _ | assumption | refine Below.drew ?_ | refine below_drewN ?_ _ | refine bl_alloc ?_ _ | refine Below.setCell ?_ (by first | (simp; done) | omega | (simp; omega)) _ | refine bl_then ?_ (by assumption))) (Nat.le_trans hBw hT1.size)⟩
             case measure => simp [intOf]; omega
           ·rw [show nextP true left slot = left &&& 2 ^ slot from rfl] at hst
            generalize left &&& 2 ^ slot = nx at hst hand hc2
            have HST3 := Lib.hid hst
            have hnl : LB n nx := hc2
            clear hst
            by_cases hx0 : nx = 0
            ·subst hx0
             by_cases hl0 : left = 0
             ·subst hl0
              have HN2 : Hid (fin = finP now l id (noteP now l id (k + 1) 0 (slot + 1) true (ds2 ++ [⟨4, id, k⟩]) (ns.drop (k + 1)))) := Lib.hid (by rw [HST3.out, if_pos (by simp [])])
              clear HST3
              have hJ6 := HJ6.out.tel hT5 (by decide) hgd6
              have d0 : W5.cell? ⟨g6, 0, none⟩ = some (.int .i64 id) := hJ6.cell 0
              have d0' : (W5.drewN nq).cell? ⟨g6, 0, none⟩ = some (.int .i64 id) := d0
              have hx5 : Ext W5 (W5.drewN nq) := (by repeat (first | exact Below.refl _ _ | assumption | refine Below.drew ?_ | refine below_drewN ?_ _ | refine bl_alloc ?_ _ | refine Below.setCell ?_ (by first | (simp; done) | omega | (simp; omega)) _ | refine bl_then ?_ (by assumption)))
              have hT5' := hT5.then_ext hx5 (Nat.le_trans hBw hT1.size)
              have HC := Lib.hid (tell_any 4 id k gd B ds2 (W5.drewN nq) (HD5.out.ext hx5) hBd (by omega))
              go_wp2_with fail
              refine HC.out.mono ?_
              rintro e W7 ⟨rfl, hd7, hT67⟩
              have hT7 := hT5'.trans hT67
              have HD7 := Lib.hid hd7
              have hJ18 := (HJ18.out.ext hx5).tel hT67 (by decide) hg18d
              have n2 : W7.cell? ⟨g18, 2, none⟩ = some (.bool true) := hJ18.cell 2
              clear d0 d0' HC hd7 hT67 hJ6 hJ18 hT5 HD5
              go_wp2_with fail
              go_quiet (fail)
              go_wp2_with fail
              go_roundw
              case rel => exact ⟨k + 1, 0, slot + 1, true, _, by omega, by go_num, rfl, hlt, by go_num, by omega, rfl, HN2, Lib.hid (HD7.out.ext (by repeat (first | exact Below.refl _ _ | assumption | refine Below.drew ?_ | refine below_drewN ?_ _ | refine bl_alloc ?_ _ | refine Below.setCell ?_ (by first | (simp; done) | omega | (simp; omega)) _ | refine bl_then ?_ (by assumption)))), by simp; omega, hT7.then_ext (by repeat (first | exact Below.refl _ _ | assumption | refine Below.drew ?_ | refine below_drewN ?_ _ | refine bl_alloc ?_ _ | refine Below.setCell ?_ (by first | (simp; done) | omega | (simp; omega)) _ | refine bl_then ?_ (by assumption))) (Nat.le_trans hBw hT1.size)⟩
              case measure => simp [intOf]; omega
             ·have hl0b : ((left : Int) != 0) = true := by simpa using hl0
              have hl0c : ((left : Int) == 0) = false := by simpa using hl0
              have hl0d : ¬ (left : Int) = 0 := by omega
              have HN2 : Hid (fin = finP now l id (noteP now l id (k + 1) left (slot + 1) true (ds2 ++ [⟨4, id, k⟩]) (ns.drop (k + 1)))) := Lib.hid (by rw [HST3.out, if_pos (by simp [])])
              clear HST3
              have hJ6 := HJ6.out.tel hT5 (by decide) hgd6
              have d0 : W5.cell? ⟨g6, 0, none⟩ = some (.int .i64 id) := hJ6.cell 0
              have d0' : (W5.drewN nq).cell? ⟨g6, 0, none⟩ = some (.int .i64 id) := d0
              have hx5 : Ext W5 (W5.drewN nq) := (by repeat (first | exact Below.refl _ _ | assumption | refine Below.drew ?_ | refine below_drewN ?_ _ | refine bl_alloc ?_ _ | refine Below.setCell ?_ (by first | (simp; done) | omega | (simp; omega)) _ | refine bl_then ?_ (by assumption)))
              have hT5' := hT5.then_ext hx5 (Nat.le_trans hBw hT1.size)
              have HC := Lib.hid (tell_any 4 id k gd B ds2 (W5.drewN nq) (HD5.out.ext hx5) hBd (by omega))
              go_wp2_with fail
              refine HC.out.mono ?_
              rintro e W7 ⟨rfl, hd7, hT67⟩
              have hT7 := hT5'.trans hT67
              have HD7 := Lib.hid hd7
              have hJ18 := (HJ18.out.ext hx5).tel hT67 (by decide) hg18d
              have n2 : W7.cell? ⟨g18, 2, none⟩ = some (.bool true) := hJ18.cell 2
              clear d0 d0' HC hd7 hT67 hJ6 hJ18 hT5 HD5
              go_wp2_with fail
              go_quiet (fail)
              go_wp2_with fail
              go_roundw
              case rel => exact ⟨k + 1, left, slot + 1, true, _, by omega, by go_num, rfl, hlt, by go_num, by omega, rfl, HN2, Lib.hid (HD7.out.ext (by repeat (first | exact Below.refl _ _ | assumption | refine Below.drew ?_ | refine below_drewN ?_ _ | refine bl_alloc ?_ _ | refine Below.setCell ?_ (by first | (simp; done) | omega | (simp; omega)) _ | refine bl_then ?_ (by assumption)))), by simp; omega, hT7.then_ext (by repeat (first | exact Below.refl _ _ | assumption | refine Below.drew ?_ | refine below_drewN ?_ _ | refine bl_alloc ?_ _ | refine Below.setCell ?_ (by first | (simp; done) | omega | (simp; omega)) _ | refine bl_then ?_ (by assumption))) (Nat.le_trans hBw hT1.size)⟩
              case measure => simp [intOf]; omega
            ·have hx0b : ((nx : Int) == 0) = false := by simpa using hx0
             have hx0d : ¬ (nx : Int) = 0 := by omega
             have HN2 : Hid (fin = finP now l id (noteP now l id (k + 1) nx (slot + 1) true ds2 (ns.drop (k + 1)))) := Lib.hid (by rw [HST3.out, if_neg (by simp [hx0])])
             clear HST3
             go_wp2_with fail
             go_quiet (fail)
             go_wp2_with fail
             go_roundw
             case rel => exact ⟨k + 1, nx, slot + 1, true, ds2, by omega, by go_num, rfl, hnl, by go_num, by omega, rfl, HN2, Lib.hid (HD5.out.ext (by repeat (first | exact Below.refl _ _ | assumption | refine Below.drew ?_ | refine below_drewN ?_ _ | refine bl_alloc ?_ _ | refine Below.setCell ?_ (by first | (simp; done) | omega | (simp; omega)) _ | refine bl_then ?_ (by assumption)))), by omega, hT5.then_ext (by repeat (first | exact Below.refl _ _ | assumption | refine Below.drew ?_ | refine below_drewN ?_ _ | refine bl_alloc ?_ _ | refine Below.setCell ?_ (by first | (simp; done) | omega | (simp; omega)) _ | refine bl_then ?_ (by assumption))) (Nat.le_trans hBw hT1.size)⟩
             case measure => simp [intOf]; omega
         ·have hs2a : ¬ (slot : Int) < (n : Int) := by omega
          have hs2b : decide ((n : Int) ≤ (slot : Int)) = true := by simpa using hs2
          have hself : ((slot : Int) != (slot : Int)) = false := by simp
          have e8 := trivial
          have HN2 : Hid (fin = finP now l id (left, ds2 ++ [⟨3, id, k⟩])) := Lib.hid (by rw [HST.out, if_pos (.inr (.inr (.inl (by rw [HL.out]; omega))))])
          clear HST
          go_quiet (fail)
          have hJ6 := HJ6.out.tel hT5 (by decide) hgd6
          have d0 : (W5.drewN nq).cell? ⟨g6, 0, none⟩ = some (.int .i64 id) := hJ6.cell 0
          have hx5 : Ext W5 (W5.drewN nq) := (by repeat (first | exact Below.refl _ _ | assumption | refine Below.drew ?_ | refine below_drewN ?_ _ | refine bl_alloc ?_ _ | refine Below.setCell ?_ (by first | (simp; done) | omega | (simp; omega)) _ | refine bl_then ?_ (by assumption)))
          have hT5' := hT5.then_ext hx5 (Nat.le_trans hBw hT1.size)
          have HC := Lib.hid (tell_any 3 id k gd B ds2 (W5.drewN nq) (HD5.out.ext hx5) hBd (by omega))
          go_wp2_with fail
          refine HC.out.mono ?_
          rintro e W7 ⟨rfl, hd7, hT67⟩
          have hT := hT5'.trans hT67
          have HD := Lib.hid hd7
          have HF := HN2
          have hdlf : (ds2 ++ [(⟨3, id, k⟩ : Dsc)]).length ≤ 100000 := by simp; omega
          generalize ds2 ++ [(⟨3, id, k⟩ : Dsc)] = dsf at HF HD hdlf
          clear d0 HC hd7 hT67 hJ6 hT5 HD5 HN2 hT5' hx5 n1 e8
          obtain ⟨wr, hwr⟩ : ∃ W, W = W7 := ⟨_, rfl⟩
          rw [← hwr] at hT HD ⊢
          clear hwr
          go_wp2_with fail
          go_meet
          exact ⟨left, dsf, rfl, hlt, HF, HD, hT⟩
        ·have hs1b : (nsl != (slot : Int)) = true := by simpa using hs1
         have hs1c : (nsl == (slot : Int)) = false := by simpa using hs1
         have e8 := trivial
         have HN2 : Hid (fin = finP now l id (left, ds2 ++ [⟨3, id, k⟩])) := Lib.hid (by rw [HST.out, if_pos (.inr (.inl hs1))])
         clear HST
         go_quiet (fail)
         have hJ6 := HJ6.out.tel hT5 (by decide) hgd6
         have d0 : (W5.drewN nq).cell? ⟨g6, 0, none⟩ = some (.int .i64 id) := hJ6.cell 0
         have hx5 : Ext W5 (W5.drewN nq) := (by repeat (first | exact Below.refl _ _ | assumption | refine Below.drew ?_ | refine below_drewN ?_ _ | refine bl_alloc ?_ _ | refine Below.setCell ?_ (by first | (simp; done) | omega | (simp; omega)) _ | refine bl_then ?_ (by assumption)))
         have hT5' := hT5.then_ext hx5 (Nat.le_trans hBw hT1.size)
         have HC := Lib.hid (tell_any 3 id k gd B ds2 (W5.drewN nq) (HD5.out.ext hx5) hBd (by omega))
         go_wp2_with fail
         refine HC.out.mono ?_
         rintro e W7 ⟨rfl, hd7, hT67⟩
         have hT := hT5'.trans hT67
         have HD := Lib.hid hd7
         have HF := HN2
         have hdlf : (ds2 ++ [(⟨3, id, k⟩ : Dsc)]).length ≤ 100000 := by simp; omega
         generalize ds2 ++ [(⟨3, id, k⟩ : Dsc)] = dsf at HF HD hdlf
         clear d0 HC hd7 hT67 hJ6 hT5 HD5 HN2 hT5' hx5 n1 e8
         obtain ⟨wr, hwr⟩ : ∃ W, W = W7 := ⟨_, rfl⟩
         rw [← hwr] at hT HD ⊢
         clear hwr
         go_wp2_with fail
         go_meet
         exact ⟨left, dsf, rfl, hlt, HF, HD, hT⟩
       ·have e8 := trivial
        have HN2 : Hid (fin = finP now l id (left, ds2 ++ [⟨3, id, k⟩])) := Lib.hid (by rw [HST.out, if_pos (.inl rfl)])
        clear HST
        go_quiet (fail)
        have hJ6 := HJ6.out.tel hT5 (by decide) hgd6
        have d0 : (W5.drewN nq).cell? ⟨g6, 0, none⟩ = some (.int .i64 id) := hJ6.cell 0
        have hx5 : Ext W5 (W5.drewN nq) := (by repeat (first | exact Below.refl _ _ | assumption | refine Below.drew ?_ | refine below_drewN ?_ _ | refine bl_alloc ?_ _ | refine Below.setCell ?_ (by first | (simp; done) | omega | (simp; omega)) _ | refine bl_then ?_ (by assumption)))
        have hT5' := hT5.then_ext hx5 (Nat.le_trans hBw hT1.size)
        have HC := Lib.hid (tell_any 3 id k gd B ds2 (W5.drewN nq) (HD5.out.ext hx5) hBd (by omega))
        go_wp2_with fail
        refine HC.out.mono ?_
        rintro e W7 ⟨rfl, hd7, hT67⟩
        have hT := hT5'.trans hT67
        have HD := Lib.hid hd7
        have HF := HN2
        have hdlf : (ds2 ++ [(⟨3, id, k⟩ : Dsc)]).length ≤ 100000 := by simp; omega
        generalize ds2 ++ [(⟨3, id, k⟩ : Dsc)] = dsf at HF HD hdlf
        clear d0 HC hd7 hT67 hJ6 hT5 HD5 HN2 hT5' hx5 n1 e8
        obtain ⟨wr, hwr⟩ : ∃ W, W = W7 := ⟨_, rfl⟩
        rw [← hwr] at hT HD ⊢
        clear hwr
        go_wp2_with fail
        go_meet
        exact ⟨left, dsf, rfl, hlt, HF, HD, hT⟩
      ·have him1 : (nim == id) = false := by simpa using him
       have him2 : (nim != id) = true := by simpa using him
       have HN2 : Hid (fin = finP now l id (noteP now l id (k + 1) left slot done ds2 (ns.drop (k + 1)))) := Lib.hid (by rw [HST.out, if_pos him])
       clear HST
       go_wp2_with fail
       go_roundw
       case rel => exact ⟨k + 1, left, slot, done, ds2, by omega, by go_num, rfl, hlt, rfl, hsn, rfl, HN2, HD5, by omega, hT5⟩
       case measure => simp [intOf]; omega
     ·have hst := HV.out
      rw [List.drop_of_length_le (by rw [HNN.out]; omega), noteP] at hst
      have HF : Hid (fin = finP now l id (left, ds2)) := Lib.hid hst
      clear hst HV
      go_wp2_with fail
      go_meet
      exact ⟨left, ds2, rfl, hlt, HF, HD, hT⟩
   case rest =>
    clear HV0 HD hT hlt
    obtain ⟨left, dsf, rfl, hlt, HF, HD, hT⟩ := hcut
    have HLST := Lib.hid (fun W => list_any left hlt.1 W)
    have hJ6 := HJ6.out.tel hT (by decide) hgd6
    have d0 : wc.cell? ⟨g6, 0, none⟩ = some (.int .i64 id) := hJ6.cell 0
    clear hJ6
    go_upto_region 28 with (fail)
    refine wp_region_obl 6 (fun ix vals v w1 => match ix with | 0 => v = .pointer (some ⟨g6, 0, none⟩) | 1 => v = .int .i64 id | 2 => v = .int .u64 left | 3 => ∃ A c, v = .slice A (setL left).length c ∧ OwnN w1 wc.heap.size (.slice A (setL left).length c) (setL left) | 4 => ∃ A c, v = .agg #[.int .i64 id, .int .i64 1, .slice A (setL left).length c, .int .i64 0, .int .i64 0] ∧ OwnN w1 wc.heap.size (.slice A (setL left).length c) (setL left) | _ => ∃ g, v = .pointer (some ⟨g, 0, none⟩) ∧ Blk w1 g 76 #[.int .i64 0, .int .i64 0, .slice none 0 0, .int .i64 0, .int .i64 0] ∧ wc.heap.size ≤ g) (by kernel_rfl) (by kernel_rfl) ?_ ?_ ?_ ?_
    ·intro ix vals v w1 w2 hi hr hx
     match ix, hr with
     | 0, hr => exact hr
     | 1, hr => exact hr
     | 2, hr => exact hr
     | 3, hr => obtain ⟨A, c, h1, h2⟩ := hr; exact ⟨A, c, h1, h2.ext hx⟩
     | 4, hr => obtain ⟨A, c, h1, h2⟩ := hr; exact ⟨A, c, h1, h2.ext hx⟩
     | (kx + 5), hr => obtain ⟨g, h1, h2, h3⟩ := hr; exact ⟨g, h1, h2.ext hx, h3⟩
    ·intro ix vals vals_ v w1 hi hv hr
     exact hr
    ·refine obls_ofT [some 129, some 130, some 131, some 132, some 133, some 20, none] [(6, .pointer (some ⟨g6, 0, none⟩)), (11, .int .u64 left)] 191 (by kernel_rfl) (by kernel_rfl) ⟨by kernel_rfl, by kernel_rfl, trivial⟩ ?_
     refine ⟨?_, ?_, ?_, ?_, ?_, ?_, trivial⟩
     ·intro vals w1 hx hd
      refine .r [(6, .pointer (some ⟨g6, 0, none⟩))] (Op.fieldAddr 32 (Operand.const (.pointer (some ⟨g6, 0, none⟩))) 0) 0 129 ⟨.out (by kernel_rfl) (by kernel_rfl), trivial⟩ ?_
      clear hd
      go_wp2
      exact ⟨rfl, Ext.refl _, rfl⟩
     ·intro vals w1 hx hd
      refine .r [(129, .pointer (some ⟨g6, 0, none⟩))] (Op.load 3 (Operand.const (.pointer (some ⟨g6, 0, none⟩)))) 3 130 ⟨.inn 0 (by kernel_rfl) (hd 0 (by decide)), trivial⟩ ?_
      clear hd
      have d0 := ext_cell hx d0
      go_wp2
      exact ⟨rfl, Ext.refl _, rfl⟩
     ·intro vals w1 hx hd
      refine .r [(11, .int .u64 left)] (Op.move (Operand.const (.int .u64 left))) 108 131 ⟨.out (by kernel_rfl) (by kernel_rfl), trivial⟩ ?_
      clear hd
      go_wp2
      exact ⟨rfl, Ext.refl _, rfl⟩
     ·intro vals w1 hx hd
      refine .r [(131, .int .u64 left)] (Op.call { callee := Callee.value (Operand.func 58), args := #[(Operand.const (.int .u64 left))], argTypes := #[108] }) 25 132 ⟨.inn 2 (by kernel_rfl) (hd 2 (by decide)), trivial⟩ ?_
      clear hd
      have hz9 := Below.size hx.undrew
      go_wp2_with fail
      refine (HLST.out _).mono ?_
      rintro e w2 ⟨v2, rfl, hown, hb2⟩
      have hown := own_base hown hz9
      obtain ⟨A3, c3, hv3, _, _⟩ := own_slice hown
      subst hv3
      have hown := Lib.hid hown
      go_wp2
      exact ⟨rfl, hb2, _, _, rfl, hown.out⟩
     ·intro vals w1 hx hd
      have r3 : (fun v w1 => ∃ A c, v = .slice A (setL left).length c ∧ OwnN w1 wc.heap.size (.slice A (setL left).length c) (setL left)) (vals 3) w1 := hd 3 (by decide)
      dsimp only at r3
      obtain ⟨A3, c3, e_3, ho3⟩ := r3
      refine .r [(130, .int .i64 id), (132, .slice A3 (setL left).length c3)] (Op.build 76 #[(0, (Operand.const (.int .i64 id))), (1, Operand.const (Value.int IntKind.i64 1)), (2, (Operand.const (.slice A3 (setL left).length c3)))]) 76 133 ⟨.inn 1 (by kernel_rfl) (hd 1 (by decide)), .inn 3 (by kernel_rfl) e_3, trivial⟩ ?_
      clear hd e_3
      have ho3 := Lib.hid ho3
      go_wp2
      exact ⟨rfl, Ext.refl _, _, _, rfl, ho3.out⟩
     ·intro vals w1 hx hd
      refine .r [] (Op.alloc 76) 0 20 trivial ?_
      clear hd
      have hz9 := Below.size hx.undrew
      go_wp2
      exact ⟨rfl, (by repeat (first | exact Below.refl _ _ | assumption | refine Below.drew ?_ | refine below_drewN ?_ _ | refine bl_alloc ?_ _ | refine Below.setCell ?_ (by first | (simp; done) | omega | (simp; omega)) _ | refine bl_then ?_ (by assumption))), _, rfl, Blk.new _ _ _, hz9⟩
    intro vals W2 hy hf
    obtain ⟨A3, c3, v4, v3⟩ : ∃ A c, vals 4 = .agg #[.int .i64 id, .int .i64 1, .slice A (setL left).length c, .int .i64 0, .int .i64 0] ∧ OwnN W2 wc.heap.size (.slice A (setL left).length c) (setL left) := hf 4 (by omega)
    obtain ⟨g20, e5, jf, hg20⟩ : ∃ g, vals 5 = .pointer (some ⟨g, 0, none⟩) ∧ Blk W2 g 76 #[.int .i64 0, .int .i64 0, .slice none 0 0, .int .i64 0, .int .i64 0] ∧ wc.heap.size ≤ g := hf 5 (by omega)
    clear hf d0 HLST
    have hy := hy.undrew
    have jb := jf.row #[.int .i64 id, .int .i64 1, .slice A3 (setL left).length c3, .int .i64 0, .int .i64 0]
    have hone := (One.refl g20 W2).row #[.int .i64 id, .int .i64 1, .slice A3 (setL left).length c3, .int .i64 0, .int .i64 0]
    have HOW := Lib.hid (One.own hone v3 jf (by decide))
    have hxd := hone.ext hy hg20
    have HJF := Lib.hid jf
    clear v3 hone hy jf
    refine tail1 6 _ (by kernel_rfl) (by kernel_rfl) rfl ?_
    simp only [Lf, dstAt, Act.put, List.getElem?_toArray, List.getElem?_cons_zero, List.getElem?_cons_succ, Option.bind_some, List.setIfInBounds_toArray, List.set_cons_zero, List.set_cons_succ]
    rw [v4, e5]
    clear v4 e5
    go_upto_region 29 with (refine wpList_store_row rfl _ _ _ rfl g20 #[.int .i64 id, .int .i64 1, .slice A3 (setL left).length c3, .int .i64 0, .int .i64 0] rfl rfl 76 _ HJF.out fate_size rfl (by simp [Value.oneCell']) ?_)
    clear HJF
    generalize W2.setRow g20 #[.int .i64 id, .int .i64 1, .slice A3 (setL left).length c3, .int .i64 0, .int .i64 0] = W3 at jb HOW hxd ⊢
    have HJB := Lib.hid jb
    clear jb
    have HL0 : Hid (setL left = [] ↔ left = 0) := Lib.hid (setL_nil ⟨left, hlt.1⟩)
    have HLB := Lib.hid (fun x (h : x ∈ setL left) => hlt.mem h)
    have HLL : Hid ((setL left).length ≤ 6) := Lib.hid (setL_len left)
    by_cases hl0 : left = 0
    ·skip
     have hL0 := HL0.out.2 hl0
     subst hl0
     have hjb0 : Blk W3 g20 76 #[.int .i64 id, .int .i64 1, .slice A3 0 c3, .int .i64 0, .int .i64 0] := by have h := HJB.out; rw [hL0] at h; exact h
     have how0 : OwnN W3 wc.heap.size (.slice A3 0 c3) [] := by have h := HOW.out; rw [hL0] at h; exact h
     have hTd := hT.then_ext hxd (Nat.le_trans hBw hT1.size)
     have a8 : W3.cell? ⟨g6, 8, none⟩ = some (.slice a n c) := (HJ6.out.tel hTd (by decide) hgd6).cell 8
     have HST0 : Hid (∃ A c, Blk W3 g20 76 #[.int .i64 id, .int .i64 1, .slice A (openK now l 0).length c, .int .i64 0, .int .i64 0] ∧ OwnN W3 wc.heap.size (.slice A (openK now l 0).length c) (openK now l 0)) := Lib.hid ⟨A3, c3, hjb0, how0⟩
     have HFE0 : Hid (fateE now l id 0 = if openL now l = [] then ⟨id, 3, [], 0, 0⟩ else endP id 2 l (openL now l)) := Lib.hid (by unfold fateE; rw [if_neg (by omega)])
     clear hL0 HL0 HLB HLL HJB HOW hjb0 how0 hTd
     go_wp2_with fail
     go_loopw [139] (fun z wr => ∃ k : Nat, k ≤ n ∧ z = .int .i64 k ∧ Hid (∃ A c, Blk wr g20 76 #[.int .i64 id, .int .i64 1, .slice A (openK now l k).length c, .int .i64 0, .int .i64 0] ∧ OwnN wr wc.heap.size (.slice A (openK now l k).length c) (openK now l k)) ∧ Ext wc wr) (fun z _ => n - (intOf z).toNat)
     case atStart => exact ⟨0, Nat.zero_le _, rfl, HST0, hxd⟩
     case round =>
      clear HST0 hxd a8
      obtain ⟨k, hk, rfl, HST, hx⟩ := hrel
      have hTr := hT.then_ext hx (Nat.le_trans hBw hT1.size)
      by_cases hkn : k < n
      ·obtain ⟨b, ob, hz, hA, hbB, hc⟩ := (ra_tel HO.out (hT1.trans hTr)).at_ slt_len hkn
       have hop := openK_succ now l k
       rw [ttAt_eq hz] at hop
       generalize l[k] = sl at hc hop
       obtain ⟨sp, sf, st⟩ := sl
       dsimp only at hop
       have HOP := Lib.hid hop
       have HKL := Lib.hid (openK_len now l k)
       have c0 : wr.cell? ⟨b, ob + k * 3, none⟩ = some (.int .i64 sp) := hc 0 (by omega)
       have c1 : wr.cell? ⟨b, ob + k * 3 + 1, none⟩ = some (.int .i64 sf) := hc 1 (by omega)
       have c2 : wr.cell? ⟨b, ob + k * 3 + 2, none⟩ = some (.int .i64 st) := hc 2 (by omega)
       subst hA
       clear hc hz hop
       go_upto_region 33 with (fail)
       have hya : Ext wr (wr.alloc (.cells #[.int .i64 sp, .int .i64 sf, .int .i64 st] 78)) := bl_alloc (Below.refl _ _) _
       have J := Blk.new wr 78 #[.int .i64 sp, .int .i64 sf, .int .i64 st]
       have hTy := hTr.then_ext hya (Nat.le_trans hBw hT1.size)
       generalize wr.heap.size = g22 at J ⊢
       generalize wr.alloc (.cells #[.int .i64 sp, .int .i64 sf, .int .i64 st] 78) = W5 at hya J hTy ⊢
       have t2 : W5.cell? ⟨g5, 2, none⟩ = some (.int .i64 now) := (HJ5.out.tel hTy (by decide) hgd7).cell 2
       have v2 : W5.cell? ⟨g22, 2, none⟩ = some (.int .i64 st) := J.cell 2
       have hx5 := Ext.trans hx hya
       obtain ⟨A, cc, hbx, hown⟩ := HST.out
       have hbx := hbx.ext hya
       have hown := hown.ext hya
       generalize openK now l k = OL at hbx hown HOP HKL
       clear HST c0 c1 c2 J hya hx hTr hTy
       by_cases hlt2 : now < st
       ·have hd : decide (now < st) = true := by simpa using hlt2
        have HN2 : Hid (openK now l (k + 1) = OL ++ [k]) := Lib.hid (by rw [HOP.out, if_pos hlt2])
        clear HOP
        go_upto_region 34 with (fail)
        have hxa : Ext W5 (W5.alloc (.cells #[.int .i64 (k : Int)] 3)) := bl_alloc (Below.refl _ _) _
        obtain ⟨A7, c7, W7, hrun, hf2, hfz, hj7, ho7, hx7⟩ := fate_app k W5.heap.size (Blk.new _ _ _) (hbx.ext hxa) (hown.ext hxa) (by have := HKL.out; omega) hg20
        have b2 : W5.cell? ⟨g20, 2, none⟩ = some (.slice A OL.length cc) := hbx.cell 2
        have b2a : (W5.alloc (.cells #[.int .i64 (k : Int)] 3)).cell? ⟨g20, 2, none⟩ = some (.slice A OL.length cc) := ext_cell hxa b2
        have HRUN := Lib.hid hrun
        have HNEW : Hid (∃ A c, Blk (W7.setCell ⟨g20, 2, none⟩ (.slice A7 (OL.length + 1) c7)) g20 76 #[.int .i64 id, .int .i64 1, .slice A (openK now l (k + 1)).length c, .int .i64 0, .int .i64 0] ∧ OwnN (W7.setCell ⟨g20, 2, none⟩ (.slice A7 (OL.length + 1) c7)) wc.heap.size (.slice A (openK now l (k + 1)).length c) (openK now l (k + 1))) := Lib.hid ⟨A7, c7, by rw [HN2.out, List.length_append]; exact hj7, by rw [HN2.out, List.length_append]; exact ho7⟩
        have HX7 := Lib.hid (hx7 wc (Ext.trans hx5 hxa) (Nat.le_refl _))
        clear hrun hj7 ho7 hx7 hbx hown hxa HN2 t2 v2
        go_wp2_with (refine wpList_append_run_ rfl _ _ _ rfl rfl rfl HRUN.out ?_)
        go_roundw
        case rel => exact ⟨k + 1, by omega, by go_num, HNEW, HX7.out⟩
        case measure => simp [intOf]; omega
       ·have hd : decide (now < st) = false := by simpa using hlt2
        have HNEW : Hid (∃ A c, Blk W5 g20 76 #[.int .i64 id, .int .i64 1, .slice A (openK now l (k + 1)).length c, .int .i64 0, .int .i64 0] ∧ OwnN W5 wc.heap.size (.slice A (openK now l (k + 1)).length c) (openK now l (k + 1))) := Lib.hid (by rw [HOP.out, if_neg hlt2, List.append_nil]; exact ⟨A, cc, hbx, hown⟩)
        clear hbx hown HOP
        go_wp2_with fail
        go_roundw
        case rel => exact ⟨k + 1, by omega, by go_num, HNEW, hx5⟩
        case measure => simp [intOf]; omega
      ·have hkn2 : k = n := by omega
       have hOL : openK now l k = openL now l := by unfold openL openK; rw [HL.out, hkn2]
       obtain ⟨A, cc, hbx, hown⟩ := HST.out
       rw [hOL] at hbx hown
       have hLL : (openL now l).length ≤ 6 := by rw [← hOL]; exact Nat.le_trans (openK_len now l k) (by omega)
       have hmem : ∀ x ∈ openL now l, x < n := fun x h => by rw [← hOL] at h; rw [← hkn2]; exact openK_mem h
       have HMEM := Lib.hid hmem
       have HLL := Lib.hid hLL
       clear hOL hmem hLL hkn2 HST
       generalize openL now l = OL at hbx hown HMEM HLL HFE0
       have b2 : wr.cell? ⟨g20, 2, none⟩ = some (.slice A OL.length cc) := hbx.cell 2
       have b1 : wr.cell? ⟨g20, 1, none⟩ = some (.int .i64 1) := hbx.cell 1
       have fz : wr.frozen? ⟨g20, 1, none⟩ = false := hbx.frozen 1
       have HBX := Lib.hid hbx
       have HOWN := Lib.hid hown
       clear hbx hown
       go_upto_region 37 with (fail)
       have jb2 : Blk (wr.setCell ⟨g20, 1, none⟩ (.int .i64 2)) g20 76 #[.int .i64 id, .int .i64 2, .slice A OL.length cc, .int .i64 0, .int .i64 0] := HBX.out.set_ 1 (.int .i64 2)
       have hone := (One.refl g20 wr).set 1 (.int .i64 2)
       have HOW := Lib.hid (One.own hone HOWN.out HBX.out (by decide))
       have hxd := hone.ext hx hg20
       clear hone HOWN HBX b1 b2 fz hx hTr
       generalize wr.setCell ⟨g20, 1, none⟩ (.int .i64 2) = wd at jb2 HOW hxd ⊢
       have b2 : wd.cell? ⟨g20, 2, none⟩ = some (.slice A OL.length cc) := jb2.cell 2
       by_cases hn0 : OL = []
       ·have HFN : Hid (fin = (⟨id, 3, [], 0, 0⟩, dsf)) := Lib.hid (by rw [HF.out]; unfold finP; rw [HFE0.out, if_pos hn0])
        subst hn0
        clear HFE0
        have b1 : wd.cell? ⟨g20, 1, none⟩ = some (.int .i64 2) := jb2.cell 1
        have fz : wd.frozen? ⟨g20, 1, none⟩ = false := jb2.frozen 1
        have HJB := Lib.hid jb2
        clear jb2
        rw [List.length_nil] at b2
        go_upto_region 39 with (fail)
        have hbR : Blk (wd.setCell ⟨g20, 1, none⟩ (.int .i64 3)) g20 76 #[.int .i64 id, .int .i64 3, .slice A ([] : List Nat).length cc, .int .i64 0, .int .i64 0] := HJB.out.set_ 1 (.int .i64 3)
        have hone := (One.refl g20 wd).set 1 (.int .i64 3)
        have hoR := One.own hone HOW.out HJB.out (by decide)
        have hxR := hone.ext hxd hg20
        clear hone b1 b2 fz HJB HOW hxd
        generalize wd.setCell ⟨g20, 1, none⟩ (.int .i64 3) = wz at hbR hoR hxR ⊢
        have hT9 := hT.then_ext hxR (Nat.le_trans hBw hT1.size)
        have hj10 := HJ10.out.tel hT9 (by decide) hgd5
        have x0 : wz.cell? ⟨g20, 0, none⟩ = some (.int .i64 id) := hbR.cell 0
        have x1 : wz.cell? ⟨g20, 1, none⟩ = some (.int .i64 3) := hbR.cell 1
        have x2 : wz.cell? ⟨g20, 2, none⟩ = some (.slice A ([] : List Nat).length cc) := hbR.cell 2
        have x3 : wz.cell? ⟨g20, 3, none⟩ = some (.int .i64 0) := hbR.cell 3
        have x4 : wz.cell? ⟨g20, 4, none⟩ = some (.int .i64 0) := hbR.cell 4
        have jr := hj10.row #[.int .i64 id, .int .i64 3, .slice A ([] : List Nat).length cc, .int .i64 0, .int .i64 0]
        have hone := (One.refl g10 wz).row #[.int .i64 id, .int .i64 3, .slice A ([] : List Nat).length cc, .int .i64 0, .int .i64 0]
        have HDF := Lib.hid (One.ds hone (HD.out.ext hxR) hj10 (by decide) hgd5)
        have HOF := Lib.hid (own_base (One.own hone hoR hj10 (by decide)) (hT1.trans hT).size)
        have HTF := Lib.hid (One.tel hone (hT1.trans hT9) hw10 hBw)
        have HJS := Lib.hid hj10
        have HJR := Lib.hid jr
        clear hT9 hj10 jr hone hbR hoR hxR
        go_wp2_with (refine wpList_store_row rfl _ _ _ rfl g10 #[.int .i64 id, .int .i64 3, .slice A ([] : List Nat).length cc, .int .i64 0, .int .i64 0] rfl rfl 76 _ HJS.out fate_size rfl (by simp [Value.oneCell']) ?_)
        exact bodyPost_ret (results_row Try.results51 _ _ g10 _ rfl HJR.out _ Try.underlying76 rfl fate_size) rfl (by unfold FateRet; rw [HFN.out]; exact ⟨_, _, rfl, HOF.out, HDF.out, HTF.out⟩)
       ·have HFE : Hid (fateE now l id 0 = endP id 2 l OL) := Lib.hid (by rw [HFE0.out, if_neg hn0])
        have hLn := hn0
        have hL6 : ∀ x ∈ OL, x < n := HMEM.out
        have hlp : 0 < OL.length := List.length_pos_iff.2 hLn
        have hl0b : ((OL.length : Int) == 0) = false := by simpa using (by omega : ¬ OL.length = 0)
        have hl0d : ¬ (OL.length : Int) = 0 := by omega
        have HJB := Lib.hid jb2
        clear jb2 HFE0 HMEM hn0
        have hL0 : 0 < OL.length := List.length_pos_iff.2 hLn
        obtain ⟨m1, hm1⟩ : ∃ m, OL.length = m + 1 := ⟨OL.length - 1, by omega⟩
        obtain ⟨gs, hAs, _, hgs, hlc, hcm, ⟨_, hgb⟩, hLc⟩ := OwnN.at_ HOW.out hLn
        subst hAs
        have hgs20 : gs ≠ g20 := hgb.ne_ HJB.out (by decide)
        have hi0 : OL.headD 0 = OL[0] := by
         obtain ⟨x, r, hxr⟩ := List.exists_cons_of_ne_nil hLn
         subst hxr
         rfl
        have hi1 : OL.getLastD 0 = OL[m1]'(by omega) := by
         rw [List.getLastD_eq_getLast?, List.getLast?_eq_getElem?]
         rw [show OL.length - 1 = m1 by omega, List.getElem?_eq_getElem (by omega)]
         rfl
        have s0 : wd.cell? ⟨gs, 0, none⟩ = some (.int .i64 (OL[0] : Nat)) := hLc 0 hL0
        have s1 : wd.cell? ⟨gs, m1, none⟩ = some (.int .i64 ((OL[m1]'(by omega) : Nat) : Int)) := hLc m1 (by omega)
        have hb0 := hL6 _ (List.getElem_mem hL0)
        have hb1 := hL6 _ (List.getElem_mem (show m1 < OL.length by omega))
        have HFN : Hid (fin = (⟨id, 2, OL, ttAt l OL[0], ttAt l (OL[m1]'(by omega))⟩, dsf)) := Lib.hid (by rw [HF.out]; unfold finP; rw [HFE.out]; unfold endP; rw [hi0, hi1])
        generalize OL[0] = i0 at s0 hb0 HFN
        generalize OL[m1]'(by omega) = j1 at s1 hb1 HFN
        have hTd := hT.then_ext hxd (Nat.le_trans hBw hT1.size)
        obtain ⟨b', ob, hz0, hA0, hbB0, hc0⟩ := (ra_tel HO.out (hT1.trans hTd)).at_ slt_len hb0
        subst hA0
        obtain ⟨b2, ob2, hz1, hA1, _, hc1⟩ := (ra_tel HO.out (hT1.trans hTd)).at_ slt_len hb1
        injection hA1 with hA1
        injection hA1 with hA1 hA2 _
        subst hA1 hA2
        have u0 : wd.cell? ⟨b', ob + i0 * 3 + 2, none⟩ = some (.int .i64 (ttAt l i0)) := by rw [ttAt_eq hz0]; exact hc0 2 (by omega)
        have u1 : wd.cell? ⟨b', ob + j1 * 3 + 2, none⟩ = some (.int .i64 (ttAt l j1)) := by rw [ttAt_eq hz1]; exact hc1 2 (by omega)
        clear hc0 hc1 hz0 hz1 hLc hi0 hi1
        generalize ttAt l i0 = t0 at u0 HFN
        generalize ttAt l j1 = t1 at u1 HFN
        have a8 : wd.cell? ⟨g6, 8, none⟩ = some (.slice (some ⟨b', ob, none⟩) n c) := (HJ6.out.tel hTd (by decide) hgd6).cell 8
        have hwr20 : w.heap.size ≤ wc.heap.size := (hT1.trans hT).size
        have hb20 : b' ≠ g20 := by omega
        have hg620 : g6 ≠ g20 := by have := (HJ6.out.tel hT (by decide) hgd6).lt; omega
        have jb : Blk wd g20 76 #[.int .i64 id, .int .i64 2, .slice (some ⟨gs, 0, none⟩) (m1 + 1) cc, .int .i64 0, .int .i64 0] := by rw [← hm1]; exact HJB.out
        have hi0n : (i0 : Int) < (n : Int) := by omega
        have hi1n : (j1 : Int) < (n : Int) := by omega
        have hm1c : m1 + 1 ≤ cc := by omega
        have hm16 : (m1 : Int) < 100000 := by have := hn6; have h2 := HLL.out; omega
        clear hgb hL6 hLn
        have HM1 := Lib.hid hm1
        clear hm1
        have hT' := tf_tr g20 (.int .i64 id) (.int .i64 2) (.slice (some ⟨gs, 0, none⟩) (m1 + 1) cc) (.int .i64 t0) (.int .i64 t1)
        go_upto_region 40 with (fail)
        refine RB.wp_region_obl (T := _) hT' 28 (fun ix vals v w1 => match ix with | 0 => v = .pointer (some ⟨g6, 8, none⟩) | 1 => v = .slice (some ⟨b', ob, none⟩) n c | 2 => v = .pointer (some ⟨g20, 2, none⟩) | 3 => v = .slice (some ⟨gs, 0, none⟩) (m1 + 1) cc | 4 => v = .pointer (some ⟨gs, 0, none⟩) | 5 => v = .int .i64 (i0 : Int) | 6 => v = .pointer (some ⟨b', ob + i0 * 3, none⟩) | 7 => v = .pointer (some ⟨b', ob + i0 * 3 + 1, none⟩) | 8 => v = .pointer (some ⟨b', ob + i0 * 3 + 2, none⟩) | 9 => v = .int .i64 t0 | 10 => v = .pointer (some ⟨g6, 8, none⟩) | 11 => v = .slice (some ⟨b', ob, none⟩) n c | 12 => v = .pointer (some ⟨g20, 2, none⟩) | 13 => v = .slice (some ⟨gs, 0, none⟩) (m1 + 1) cc | 14 => v = .pointer (some ⟨g20, 2, none⟩) | 15 => v = .slice (some ⟨gs, 0, none⟩) (m1 + 1) cc | 16 => v = .int .i64 ((m1 + 1 : Nat) : Int) | 17 => v = .int .i64 (m1 : Int) | 18 => v = .pointer (some ⟨gs, m1, none⟩) | 19 => v = .int .i64 (j1 : Int) | 20 => v = .pointer (some ⟨b', ob + j1 * 3, none⟩) | 21 => v = .pointer (some ⟨b', ob + j1 * 3 + 1, none⟩) | 22 => v = .pointer (some ⟨b', ob + j1 * 3 + 2, none⟩) | 23 => v = .int .i64 t1 | 24 => v = .pointer (some ⟨g20, 3, none⟩) | 25 => ∃ y, Blk w1 g20 76 #[.int .i64 id, .int .i64 2, .slice (some ⟨gs, 0, none⟩) (m1 + 1) cc, .int .i64 t0, y] | 26 => v = .pointer (some ⟨g20, 4, none⟩) | _ => ∃ y, Blk w1 g20 76 #[.int .i64 id, .int .i64 2, .slice (some ⟨gs, 0, none⟩) (m1 + 1) cc, y, .int .i64 t1]) (by kernel_rfl) (by kernel_rfl) ?_ ?_ ?_ ?_
        ·intro ix vals v w1 w2 hi hr hx
         match ix, hr with
         | 0, hr => exact hr
         | 1, hr => exact hr
         | 2, hr => exact hr
         | 3, hr => exact hr
         | 4, hr => exact hr
         | 5, hr => exact hr
         | 6, hr => exact hr
         | 7, hr => exact hr
         | 8, hr => exact hr
         | 9, hr => exact hr
         | 10, hr => exact hr
         | 11, hr => exact hr
         | 12, hr => exact hr
         | 13, hr => exact hr
         | 14, hr => exact hr
         | 15, hr => exact hr
         | 16, hr => exact hr
         | 17, hr => exact hr
         | 18, hr => exact hr
         | 19, hr => exact hr
         | 20, hr => exact hr
         | 21, hr => exact hr
         | 22, hr => exact hr
         | 23, hr => exact hr
         | 24, hr => exact hr
         | 25, hr => obtain ⟨y, h⟩ := hr; obtain ⟨a', b'', h1, h2, _⟩ := hx.bx _ _ h; rw [h2 rfl] at h1; exact ⟨b'', h1⟩
         | 26, hr => exact hr
         | (kx + 27), hr => obtain ⟨y, h⟩ := hr; obtain ⟨a', b'', h1, _, h2⟩ := hx.bx _ _ h; rw [h2 rfl] at h1; exact ⟨a', h1⟩
        ·intro ix vals vals_ v w1 hi hv hr
         exact hr
        ·refine ⟨?_, ?_, ?_, ?_, ?_, ?_, ?_, ?_, ?_, ?_, ?_, ?_, ?_, ?_, ?_, ?_, ?_, ?_, ?_, ?_, ?_, ?_, ?_, ?_, ?_, ?_, ?_, ?_, trivial⟩
         ·intro vals w1 hx hd ha
          clear hd ha
          simp only [Lf]
          go_wp2
          exact ⟨rfl, hT'.refl _, rfl⟩
         ·intro vals w1 hx hd ha
          have e0 : vals 0 = .pointer (some ⟨g6, 8, none⟩) := hd 0 (by decide)
          clear hd ha
          simp only [Lf, dstAt, Act.put, List.getElem?_toArray, List.getElem?_cons_zero, Option.bind_some, List.setIfInBounds_toArray, List.set_cons_zero, List.set_cons_succ]
          simp only [e0]
          clear e0
          have a8 := hx.undrew.gr.cell a8 hg620
          go_wp2
          exact ⟨rfl, hT'.refl _, rfl⟩
         ·intro vals w1 hx hd ha
          clear hd ha
          simp only [Lf, dstAt, Act.put, List.getElem?_toArray, List.getElem?_cons_zero, List.getElem?_cons_succ, Option.bind_some, List.setIfInBounds_toArray, List.set_cons_zero, List.set_cons_succ]
          go_wp2
          exact ⟨rfl, hT'.refl _, rfl⟩
         ·intro vals w1 hx hd ha
          have e2 : vals 2 = .pointer (some ⟨g20, 2, none⟩) := hd 2 (by decide)
          clear hd ha
          simp only [Lf, dstAt, Act.put, List.getElem?_toArray, List.getElem?_cons_zero, List.getElem?_cons_succ, Option.bind_some, List.setIfInBounds_toArray, List.set_cons_zero, List.set_cons_succ]
          simp only [e2]
          clear e2
          obtain ⟨xa, xb, hbx, _, _⟩ := hx.undrew.bx _ _ jb; have b2 : w1.cell? ⟨g20, 2, none⟩ = some (.slice (some ⟨gs, 0, none⟩) (m1 + 1) cc) := hbx.cell 2; clear hbx
          go_wp2
          exact ⟨rfl, hT'.refl _, rfl⟩
         ·intro vals w1 hx hd ha
          have e3 : vals 3 = .slice (some ⟨gs, 0, none⟩) (m1 + 1) cc := hd 3 (by decide)
          clear hd ha
          simp only [Lf, dstAt, Act.put, List.getElem?_toArray, List.getElem?_cons_zero, List.getElem?_cons_succ, Option.bind_some, List.setIfInBounds_toArray, List.set_cons_zero, List.set_cons_succ]
          simp only [e3]
          clear e3
          go_wp2
          exact ⟨rfl, hT'.refl _, rfl⟩
         ·intro vals w1 hx hd ha
          have e4 : vals 4 = .pointer (some ⟨gs, 0, none⟩) := hd 4 (by decide)
          clear hd ha
          simp only [Lf, dstAt, Act.put, List.getElem?_toArray, List.getElem?_cons_zero, List.getElem?_cons_succ, Option.bind_some, List.setIfInBounds_toArray, List.set_cons_zero, List.set_cons_succ]
          simp only [e4]
          clear e4
          have s0 := hx.undrew.gr.cell s0 hgs20
          go_wp2
          exact ⟨rfl, hT'.refl _, rfl⟩
         ·intro vals w1 hx hd ha
          have e1 : vals 1 = .slice (some ⟨b', ob, none⟩) n c := hd 1 (by decide)
          have e5 : vals 5 = .int .i64 (i0 : Int) := hd 5 (by decide)
          clear hd ha
          simp only [Lf, dstAt, Act.put, List.getElem?_toArray, List.getElem?_cons_zero, List.getElem?_cons_succ, Option.bind_some, List.setIfInBounds_toArray, List.set_cons_zero, List.set_cons_succ]
          simp only [e1, e5]
          clear e1 e5
          go_wp2
          exact ⟨rfl, hT'.refl _, rfl⟩
         ·intro vals w1 hx hd ha
          have e6 : vals 6 = .pointer (some ⟨b', ob + i0 * 3, none⟩) := hd 6 (by decide)
          clear hd ha
          simp only [Lf, dstAt, Act.put, List.getElem?_toArray, List.getElem?_cons_zero, List.getElem?_cons_succ, Option.bind_some, List.setIfInBounds_toArray, List.set_cons_zero, List.set_cons_succ]
          simp only [e6]
          clear e6
          go_wp2
          exact ⟨rfl, hT'.refl _, rfl⟩
         ·intro vals w1 hx hd ha
          have e7 : vals 7 = .pointer (some ⟨b', ob + i0 * 3 + 1, none⟩) := hd 7 (by decide)
          clear hd ha
          simp only [Lf, dstAt, Act.put, List.getElem?_toArray, List.getElem?_cons_zero, List.getElem?_cons_succ, Option.bind_some, List.setIfInBounds_toArray, List.set_cons_zero, List.set_cons_succ]
          simp only [e7]
          clear e7
          go_wp2
          exact ⟨rfl, hT'.refl _, rfl⟩
         ·intro vals w1 hx hd ha
          have e8 : vals 8 = .pointer (some ⟨b', ob + i0 * 3 + 2, none⟩) := hd 8 (by decide)
          clear hd ha
          simp only [Lf, dstAt, Act.put, List.getElem?_toArray, List.getElem?_cons_zero, List.getElem?_cons_succ, Option.bind_some, List.setIfInBounds_toArray, List.set_cons_zero, List.set_cons_succ]
          simp only [e8]
          clear e8
          have u0 := hx.undrew.gr.cell u0 hb20
          go_wp2
          exact ⟨rfl, hT'.refl _, rfl⟩
         ·intro vals w1 hx hd ha
          clear hd ha
          simp only [Lf, dstAt, Act.put, List.getElem?_toArray, List.getElem?_cons_zero, List.getElem?_cons_succ, Option.bind_some, List.setIfInBounds_toArray, List.set_cons_zero, List.set_cons_succ]
          go_wp2
          exact ⟨rfl, hT'.refl _, rfl⟩
         ·intro vals w1 hx hd ha
          have e10 : vals 10 = .pointer (some ⟨g6, 8, none⟩) := hd 10 (by decide)
          clear hd ha
          simp only [Lf, dstAt, Act.put, List.getElem?_toArray, List.getElem?_cons_zero, List.getElem?_cons_succ, Option.bind_some, List.setIfInBounds_toArray, List.set_cons_zero, List.set_cons_succ]
          simp only [e10]
          clear e10
          have a8 := hx.undrew.gr.cell a8 hg620
          go_wp2
          exact ⟨rfl, hT'.refl _, rfl⟩
         ·intro vals w1 hx hd ha
          clear hd ha
          simp only [Lf, dstAt, Act.put, List.getElem?_toArray, List.getElem?_cons_zero, List.getElem?_cons_succ, Option.bind_some, List.setIfInBounds_toArray, List.set_cons_zero, List.set_cons_succ]
          go_wp2
          exact ⟨rfl, hT'.refl _, rfl⟩
         ·intro vals w1 hx hd ha
          have e12 : vals 12 = .pointer (some ⟨g20, 2, none⟩) := hd 12 (by decide)
          clear hd ha
          simp only [Lf, dstAt, Act.put, List.getElem?_toArray, List.getElem?_cons_zero, List.getElem?_cons_succ, Option.bind_some, List.setIfInBounds_toArray, List.set_cons_zero, List.set_cons_succ]
          simp only [e12]
          clear e12
          obtain ⟨xa, xb, hbx, _, _⟩ := hx.undrew.bx _ _ jb; have b2 : w1.cell? ⟨g20, 2, none⟩ = some (.slice (some ⟨gs, 0, none⟩) (m1 + 1) cc) := hbx.cell 2; clear hbx
          go_wp2
          exact ⟨rfl, hT'.refl _, rfl⟩
         ·intro vals w1 hx hd ha
          clear hd ha
          simp only [Lf, dstAt, Act.put, List.getElem?_toArray, List.getElem?_cons_zero, List.getElem?_cons_succ, Option.bind_some, List.setIfInBounds_toArray, List.set_cons_zero, List.set_cons_succ]
          go_wp2
          exact ⟨rfl, hT'.refl _, rfl⟩
         ·intro vals w1 hx hd ha
          have e14 : vals 14 = .pointer (some ⟨g20, 2, none⟩) := hd 14 (by decide)
          clear hd ha
          simp only [Lf, dstAt, Act.put, List.getElem?_toArray, List.getElem?_cons_zero, List.getElem?_cons_succ, Option.bind_some, List.setIfInBounds_toArray, List.set_cons_zero, List.set_cons_succ]
          simp only [e14]
          clear e14
          obtain ⟨xa, xb, hbx, _, _⟩ := hx.undrew.bx _ _ jb; have b2 : w1.cell? ⟨g20, 2, none⟩ = some (.slice (some ⟨gs, 0, none⟩) (m1 + 1) cc) := hbx.cell 2; clear hbx
          go_wp2
          exact ⟨rfl, hT'.refl _, rfl⟩
         ·intro vals w1 hx hd ha
          have e15 : vals 15 = .slice (some ⟨gs, 0, none⟩) (m1 + 1) cc := hd 15 (by decide)
          clear hd ha
          simp only [Lf, dstAt, Act.put, List.getElem?_toArray, List.getElem?_cons_zero, List.getElem?_cons_succ, Option.bind_some, List.setIfInBounds_toArray, List.set_cons_zero, List.set_cons_succ]
          simp only [e15]
          clear e15
          go_wp2
          exact ⟨rfl, hT'.refl _, rfl⟩
         ·intro vals w1 hx hd ha
          have e16 : vals 16 = .int .i64 ((m1 + 1 : Nat) : Int) := hd 16 (by decide)
          clear hd ha
          simp only [Lf, dstAt, Act.put, List.getElem?_toArray, List.getElem?_cons_zero, List.getElem?_cons_succ, Option.bind_some, List.setIfInBounds_toArray, List.set_cons_zero, List.set_cons_succ]
          simp only [e16]
          clear e16
          go_wp2
          exact ⟨rfl, hT'.refl _, by go_num⟩
         ·intro vals w1 hx hd ha
          have e13 : vals 13 = .slice (some ⟨gs, 0, none⟩) (m1 + 1) cc := hd 13 (by decide)
          have e17 : vals 17 = .int .i64 (m1 : Int) := hd 17 (by decide)
          clear hd ha
          simp only [Lf, dstAt, Act.put, List.getElem?_toArray, List.getElem?_cons_zero, List.getElem?_cons_succ, Option.bind_some, List.setIfInBounds_toArray, List.set_cons_zero, List.set_cons_succ]
          simp only [e13, e17]
          clear e13 e17
          go_wp2
          exact ⟨rfl, hT'.refl _, rfl⟩
         ·intro vals w1 hx hd ha
          have e18 : vals 18 = .pointer (some ⟨gs, m1, none⟩) := hd 18 (by decide)
          clear hd ha
          simp only [Lf, dstAt, Act.put, List.getElem?_toArray, List.getElem?_cons_zero, List.getElem?_cons_succ, Option.bind_some, List.setIfInBounds_toArray, List.set_cons_zero, List.set_cons_succ]
          simp only [e18]
          clear e18
          have s1 := hx.undrew.gr.cell s1 hgs20
          go_wp2
          exact ⟨rfl, hT'.refl _, rfl⟩
         ·intro vals w1 hx hd ha
          have e11 : vals 11 = .slice (some ⟨b', ob, none⟩) n c := hd 11 (by decide)
          have e19 : vals 19 = .int .i64 (j1 : Int) := hd 19 (by decide)
          clear hd ha
          simp only [Lf, dstAt, Act.put, List.getElem?_toArray, List.getElem?_cons_zero, List.getElem?_cons_succ, Option.bind_some, List.setIfInBounds_toArray, List.set_cons_zero, List.set_cons_succ]
          simp only [e11, e19]
          clear e11 e19
          go_wp2
          exact ⟨rfl, hT'.refl _, rfl⟩
         ·intro vals w1 hx hd ha
          have e20 : vals 20 = .pointer (some ⟨b', ob + j1 * 3, none⟩) := hd 20 (by decide)
          clear hd ha
          simp only [Lf, dstAt, Act.put, List.getElem?_toArray, List.getElem?_cons_zero, List.getElem?_cons_succ, Option.bind_some, List.setIfInBounds_toArray, List.set_cons_zero, List.set_cons_succ]
          simp only [e20]
          clear e20
          go_wp2
          exact ⟨rfl, hT'.refl _, rfl⟩
         ·intro vals w1 hx hd ha
          have e21 : vals 21 = .pointer (some ⟨b', ob + j1 * 3 + 1, none⟩) := hd 21 (by decide)
          clear hd ha
          simp only [Lf, dstAt, Act.put, List.getElem?_toArray, List.getElem?_cons_zero, List.getElem?_cons_succ, Option.bind_some, List.setIfInBounds_toArray, List.set_cons_zero, List.set_cons_succ]
          simp only [e21]
          clear e21
          go_wp2
          exact ⟨rfl, hT'.refl _, rfl⟩
         ·intro vals w1 hx hd ha
          have e22 : vals 22 = .pointer (some ⟨b', ob + j1 * 3 + 2, none⟩) := hd 22 (by decide)
          clear hd ha
          simp only [Lf, dstAt, Act.put, List.getElem?_toArray, List.getElem?_cons_zero, List.getElem?_cons_succ, Option.bind_some, List.setIfInBounds_toArray, List.set_cons_zero, List.set_cons_succ]
          simp only [e22]
          clear e22
          have u1 := hx.undrew.gr.cell u1 hb20
          go_wp2
          exact ⟨rfl, hT'.refl _, rfl⟩
         ·intro vals w1 hx hd ha
          have e0 : vals 0 = .pointer (some ⟨g6, 8, none⟩) := hd 0 (by decide)
          have e1 : vals 1 = .slice (some ⟨b', ob, none⟩) n c := hd 1 (by decide)
          have e2 : vals 2 = .pointer (some ⟨g20, 2, none⟩) := hd 2 (by decide)
          have e3 : vals 3 = .slice (some ⟨gs, 0, none⟩) (m1 + 1) cc := hd 3 (by decide)
          have e4 : vals 4 = .pointer (some ⟨gs, 0, none⟩) := hd 4 (by decide)
          have e5 : vals 5 = .int .i64 (i0 : Int) := hd 5 (by decide)
          have e6 : vals 6 = .pointer (some ⟨b', ob + i0 * 3, none⟩) := hd 6 (by decide)
          have e7 : vals 7 = .pointer (some ⟨b', ob + i0 * 3 + 1, none⟩) := hd 7 (by decide)
          have e8 : vals 8 = .pointer (some ⟨b', ob + i0 * 3 + 2, none⟩) := hd 8 (by decide)
          have e9 : vals 9 = .int .i64 t0 := hd 9 (by decide)
          have e12 : vals 12 = .pointer (some ⟨g20, 2, none⟩) := hd 12 (by decide)
          have e13 : vals 13 = .slice (some ⟨gs, 0, none⟩) (m1 + 1) cc := hd 13 (by decide)
          have e14 : vals 14 = .pointer (some ⟨g20, 2, none⟩) := hd 14 (by decide)
          have e15 : vals 15 = .slice (some ⟨gs, 0, none⟩) (m1 + 1) cc := hd 15 (by decide)
          clear hd ha
          simp only [Lf, dstAt, Act.put, List.getElem?_toArray, List.getElem?_cons_zero, List.getElem?_cons_succ, Option.bind_some, List.setIfInBounds_toArray, List.set_cons_zero, List.set_cons_succ]
          simp only [e0, e1, e2, e3, e4, e5, e6, e7, e8, e9, e12, e13, e14, e15]
          clear e0 e1 e2 e3 e4 e5 e6 e7 e8 e9 e12 e13 e14 e15
          go_wp2
          exact ⟨rfl, hT'.refl _, rfl⟩
         ·intro vals w1 hx hd ha
          have e0 : vals 0 = .pointer (some ⟨g6, 8, none⟩) := hd 0 (by decide)
          have e1 : vals 1 = .slice (some ⟨b', ob, none⟩) n c := hd 1 (by decide)
          have e2 : vals 2 = .pointer (some ⟨g20, 2, none⟩) := hd 2 (by decide)
          have e3 : vals 3 = .slice (some ⟨gs, 0, none⟩) (m1 + 1) cc := hd 3 (by decide)
          have e4 : vals 4 = .pointer (some ⟨gs, 0, none⟩) := hd 4 (by decide)
          have e5 : vals 5 = .int .i64 (i0 : Int) := hd 5 (by decide)
          have e6 : vals 6 = .pointer (some ⟨b', ob + i0 * 3, none⟩) := hd 6 (by decide)
          have e7 : vals 7 = .pointer (some ⟨b', ob + i0 * 3 + 1, none⟩) := hd 7 (by decide)
          have e8 : vals 8 = .pointer (some ⟨b', ob + i0 * 3 + 2, none⟩) := hd 8 (by decide)
          have e9 : vals 9 = .int .i64 t0 := hd 9 (by decide)
          have e12 : vals 12 = .pointer (some ⟨g20, 2, none⟩) := hd 12 (by decide)
          have e13 : vals 13 = .slice (some ⟨gs, 0, none⟩) (m1 + 1) cc := hd 13 (by decide)
          have e14 : vals 14 = .pointer (some ⟨g20, 2, none⟩) := hd 14 (by decide)
          have e15 : vals 15 = .slice (some ⟨gs, 0, none⟩) (m1 + 1) cc := hd 15 (by decide)
          have e24 : vals 24 = .pointer (some ⟨g20, 3, none⟩) := hd 24 (by decide)
          clear hd ha
          simp only [Lf, dstAt, Act.put, List.getElem?_toArray, List.getElem?_cons_zero, List.getElem?_cons_succ, Option.bind_some, List.setIfInBounds_toArray, List.set_cons_zero, List.set_cons_succ]
          simp only [e0]
          simp only [e1]
          simp only [e2]
          simp only [e3]
          simp only [e4]
          simp only [e5]
          simp only [e6]
          simp only [e7]
          simp only [e8]
          simp only [e9]
          simp only [e12]
          simp only [e13]
          simp only [e14]
          simp only [e15]
          simp only [e24]
          clear e0 e1 e2 e3 e4 e5 e6 e7 e8 e9 e12 e13 e14 e15 e24
          obtain ⟨xa, xb, hbx, _, _⟩ := hx.undrew.bx _ _ jb
          have f3 : w1.cell? ⟨g20, 3, none⟩ = some xa := hbx.cell 3
          have fz : w1.frozen? ⟨g20, 3, none⟩ = false := hbx.frozen 3
          have hbx := Lib.hid hbx
          go_wp2
          exact ⟨rfl, TF.set3, xb, hbx.out.set_ 3 _⟩
         ·intro vals w1 hx hd ha
          have e0 : vals 0 = .pointer (some ⟨g6, 8, none⟩) := hd 0 (by decide)
          have e1 : vals 1 = .slice (some ⟨b', ob, none⟩) n c := hd 1 (by decide)
          have e2 : vals 2 = .pointer (some ⟨g20, 2, none⟩) := hd 2 (by decide)
          have e3 : vals 3 = .slice (some ⟨gs, 0, none⟩) (m1 + 1) cc := hd 3 (by decide)
          have e4 : vals 4 = .pointer (some ⟨gs, 0, none⟩) := hd 4 (by decide)
          have e5 : vals 5 = .int .i64 (i0 : Int) := hd 5 (by decide)
          have e6 : vals 6 = .pointer (some ⟨b', ob + i0 * 3, none⟩) := hd 6 (by decide)
          have e7 : vals 7 = .pointer (some ⟨b', ob + i0 * 3 + 1, none⟩) := hd 7 (by decide)
          have e8 : vals 8 = .pointer (some ⟨b', ob + i0 * 3 + 2, none⟩) := hd 8 (by decide)
          have e9 : vals 9 = .int .i64 t0 := hd 9 (by decide)
          have e10 : vals 10 = .pointer (some ⟨g6, 8, none⟩) := hd 10 (by decide)
          have e11 : vals 11 = .slice (some ⟨b', ob, none⟩) n c := hd 11 (by decide)
          have e12 : vals 12 = .pointer (some ⟨g20, 2, none⟩) := hd 12 (by decide)
          have e13 : vals 13 = .slice (some ⟨gs, 0, none⟩) (m1 + 1) cc := hd 13 (by decide)
          have e14 : vals 14 = .pointer (some ⟨g20, 2, none⟩) := hd 14 (by decide)
          have e15 : vals 15 = .slice (some ⟨gs, 0, none⟩) (m1 + 1) cc := hd 15 (by decide)
          have e16 : vals 16 = .int .i64 ((m1 + 1 : Nat) : Int) := hd 16 (by decide)
          have e17 : vals 17 = .int .i64 (m1 : Int) := hd 17 (by decide)
          have e18 : vals 18 = .pointer (some ⟨gs, m1, none⟩) := hd 18 (by decide)
          have e19 : vals 19 = .int .i64 (j1 : Int) := hd 19 (by decide)
          have e20 : vals 20 = .pointer (some ⟨b', ob + j1 * 3, none⟩) := hd 20 (by decide)
          have e21 : vals 21 = .pointer (some ⟨b', ob + j1 * 3 + 1, none⟩) := hd 21 (by decide)
          have e22 : vals 22 = .pointer (some ⟨b', ob + j1 * 3 + 2, none⟩) := hd 22 (by decide)
          have e23 : vals 23 = .int .i64 t1 := hd 23 (by decide)
          have e24 : vals 24 = .pointer (some ⟨g20, 3, none⟩) := hd 24 (by decide)
          have r25 : (fun v w1 => ∃ y, Blk w1 g20 76 #[.int .i64 id, .int .i64 2, .slice (some ⟨gs, 0, none⟩) (m1 + 1) cc, .int .i64 t0, y]) (vals 25) w1 := hd 25 (by decide)
          dsimp only at r25
          clear hd ha
          simp only [Lf, dstAt, Act.put, List.getElem?_toArray, List.getElem?_cons_zero, List.getElem?_cons_succ, Option.bind_some, List.setIfInBounds_toArray, List.set_cons_zero, List.set_cons_succ]
          simp only [e0, e1, e2, e3, e4, e5, e6, e7, e8, e9, e10, e11, e12, e13, e14, e15, e16, e17, e18, e19, e20, e21, e22, e23, e24]
          clear e0 e1 e2 e3 e4 e5 e6 e7 e8 e9 e10 e11 e12 e13 e14 e15 e16 e17 e18 e19 e20 e21 e22 e23 e24
          go_wp2
          exact ⟨rfl, hT'.refl _, rfl⟩
         ·intro vals w1 hx hd ha
          have e0 : vals 0 = .pointer (some ⟨g6, 8, none⟩) := hd 0 (by decide)
          have e1 : vals 1 = .slice (some ⟨b', ob, none⟩) n c := hd 1 (by decide)
          have e2 : vals 2 = .pointer (some ⟨g20, 2, none⟩) := hd 2 (by decide)
          have e3 : vals 3 = .slice (some ⟨gs, 0, none⟩) (m1 + 1) cc := hd 3 (by decide)
          have e4 : vals 4 = .pointer (some ⟨gs, 0, none⟩) := hd 4 (by decide)
          have e5 : vals 5 = .int .i64 (i0 : Int) := hd 5 (by decide)
          have e6 : vals 6 = .pointer (some ⟨b', ob + i0 * 3, none⟩) := hd 6 (by decide)
          have e7 : vals 7 = .pointer (some ⟨b', ob + i0 * 3 + 1, none⟩) := hd 7 (by decide)
          have e8 : vals 8 = .pointer (some ⟨b', ob + i0 * 3 + 2, none⟩) := hd 8 (by decide)
          have e9 : vals 9 = .int .i64 t0 := hd 9 (by decide)
          have e10 : vals 10 = .pointer (some ⟨g6, 8, none⟩) := hd 10 (by decide)
          have e11 : vals 11 = .slice (some ⟨b', ob, none⟩) n c := hd 11 (by decide)
          have e12 : vals 12 = .pointer (some ⟨g20, 2, none⟩) := hd 12 (by decide)
          have e13 : vals 13 = .slice (some ⟨gs, 0, none⟩) (m1 + 1) cc := hd 13 (by decide)
          have e14 : vals 14 = .pointer (some ⟨g20, 2, none⟩) := hd 14 (by decide)
          have e15 : vals 15 = .slice (some ⟨gs, 0, none⟩) (m1 + 1) cc := hd 15 (by decide)
          have e16 : vals 16 = .int .i64 ((m1 + 1 : Nat) : Int) := hd 16 (by decide)
          have e17 : vals 17 = .int .i64 (m1 : Int) := hd 17 (by decide)
          have e18 : vals 18 = .pointer (some ⟨gs, m1, none⟩) := hd 18 (by decide)
          have e19 : vals 19 = .int .i64 (j1 : Int) := hd 19 (by decide)
          have e20 : vals 20 = .pointer (some ⟨b', ob + j1 * 3, none⟩) := hd 20 (by decide)
          have e21 : vals 21 = .pointer (some ⟨b', ob + j1 * 3 + 1, none⟩) := hd 21 (by decide)
          have e22 : vals 22 = .pointer (some ⟨b', ob + j1 * 3 + 2, none⟩) := hd 22 (by decide)
          have e23 : vals 23 = .int .i64 t1 := hd 23 (by decide)
          have e24 : vals 24 = .pointer (some ⟨g20, 3, none⟩) := hd 24 (by decide)
          have r25 : (fun v w1 => ∃ y, Blk w1 g20 76 #[.int .i64 id, .int .i64 2, .slice (some ⟨gs, 0, none⟩) (m1 + 1) cc, .int .i64 t0, y]) (vals 25) w1 := hd 25 (by decide)
          dsimp only at r25
          have e26 : vals 26 = .pointer (some ⟨g20, 4, none⟩) := hd 26 (by decide)
          clear hd ha
          simp only [Lf, dstAt, Act.put, List.getElem?_toArray, List.getElem?_cons_zero, List.getElem?_cons_succ, Option.bind_some, List.setIfInBounds_toArray, List.set_cons_zero, List.set_cons_succ]
          simp only [e0]
          simp only [e1]
          simp only [e2]
          simp only [e3]
          simp only [e4]
          simp only [e5]
          simp only [e6]
          simp only [e7]
          simp only [e8]
          simp only [e9]
          simp only [e10]
          simp only [e11]
          simp only [e12]
          simp only [e13]
          simp only [e14]
          simp only [e15]
          simp only [e16]
          simp only [e17]
          simp only [e18]
          simp only [e19]
          simp only [e20]
          simp only [e21]
          simp only [e22]
          simp only [e23]
          simp only [e24]
          simp only [e26]
          clear e0 e1 e2 e3 e4 e5 e6 e7 e8 e9 e10 e11 e12 e13 e14 e15 e16 e17 e18 e19 e20 e21 e22 e23 e24 e26
          obtain ⟨xa, xb, hbx, _, _⟩ := hx.undrew.bx _ _ jb
          have f3 : w1.cell? ⟨g20, 4, none⟩ = some xb := hbx.cell 4
          have fz : w1.frozen? ⟨g20, 4, none⟩ = false := hbx.frozen 4
          have hbx := Lib.hid hbx
          go_wp2
          exact ⟨rfl, TF.set4, xa, hbx.out.set_ 4 _⟩
        intro vals W4 hy hf
        have hbR : Blk W4 g20 76 #[.int .i64 id, .int .i64 2, .slice (some ⟨gs, 0, none⟩) OL.length cc, .int .i64 t0, .int .i64 t1] := by
         obtain ⟨y1, h1⟩ : ∃ y, Blk W4 g20 76 #[.int .i64 id, .int .i64 2, .slice (some ⟨gs, 0, none⟩) (m1 + 1) cc, .int .i64 t0, y] := hf 25 (by omega)
         obtain ⟨y2, h2⟩ : ∃ y, Blk W4 g20 76 #[.int .i64 id, .int .i64 2, .slice (some ⟨gs, 0, none⟩) (m1 + 1) cc, y, .int .i64 t1] := hf 27 (by omega)
         rw [HM1.out]
         exact fate_two h1 h2
        have hone4 := hy.undrew.gr
        have hoR := One.own hone4 HOW.out jb (by decide)
        have hxR := hone4.ext hxd hg20
        clear hy hf a8 s0 s1 u0 u1 jb hT' hone4 HJB
        refine tail0 (by kernel_rfl) ?_
        simp only [Lf, dstAt, Act.put, List.getElem?_toArray, List.getElem?_cons_zero, List.getElem?_cons_succ, Option.bind_some, List.setIfInBounds_toArray, List.set_cons_zero, List.set_cons_succ]
        clear hlc hcm hm1c hi0n hi1n hm16 hb20 hb0 hb1 hL0 hgs20 hg620 hwr20 hbB0 hgs
        have hT9 := hT.then_ext hxR (Nat.le_trans hBw hT1.size)
        have hj10 := HJ10.out.tel hT9 (by decide) hgd5
        have x0 : W4.cell? ⟨g20, 0, none⟩ = some (.int .i64 id) := hbR.cell 0
        have x1 : W4.cell? ⟨g20, 1, none⟩ = some (.int .i64 2) := hbR.cell 1
        have x2 : W4.cell? ⟨g20, 2, none⟩ = some (.slice (some ⟨gs, 0, none⟩) OL.length cc) := hbR.cell 2
        have x3 : W4.cell? ⟨g20, 3, none⟩ = some (.int .i64 t0) := hbR.cell 3
        have x4 : W4.cell? ⟨g20, 4, none⟩ = some (.int .i64 t1) := hbR.cell 4
        have jr := hj10.row #[.int .i64 id, .int .i64 2, .slice (some ⟨gs, 0, none⟩) OL.length cc, .int .i64 t0, .int .i64 t1]
        have hone := (One.refl g10 W4).row #[.int .i64 id, .int .i64 2, .slice (some ⟨gs, 0, none⟩) OL.length cc, .int .i64 t0, .int .i64 t1]
        have HDF := Lib.hid (One.ds hone (HD.out.ext hxR) hj10 (by decide) hgd5)
        have HOF := Lib.hid (own_base (One.own hone hoR hj10 (by decide)) (hT1.trans hT).size)
        have HTF := Lib.hid (One.tel hone (hT1.trans hT9) hw10 hBw)
        have HJS := Lib.hid hj10
        have HJR := Lib.hid jr
        clear hT9 hj10 jr hone hbR hoR hxR
        go_wp2_with (refine wpList_store_row rfl _ _ _ rfl g10 #[.int .i64 id, .int .i64 2, .slice (some ⟨gs, 0, none⟩) OL.length cc, .int .i64 t0, .int .i64 t1] rfl rfl 76 _ HJS.out fate_size rfl (by simp [Value.oneCell']) ?_)
        exact bodyPost_ret (results_row Try.results51 _ _ g10 _ rfl HJR.out _ Try.underlying76 rfl fate_size) rfl (by unfold FateRet; rw [HFN.out]; exact ⟨_, _, rfl, HOF.out, HDF.out, HTF.out⟩)
    ·have hLn : setL left ≠ [] := fun e => hl0 (HL0.out.1 e)
     have hL6 : ∀ x ∈ setL left, x < n := HLB.out
     have HFE : Hid (fateE now l id left = endP id 1 l (setL left)) := Lib.hid (if_pos hl0)
     have hl0b : ((left : Int) == 0) = false := by simpa using hl0
     have hl0d : ¬ (left : Int) = 0 := by omega
     generalize setL left = L at hLn hL6 HFE HOW HJB HLL
     clear HL0 HLB
     have hL0 : 0 < L.length := List.length_pos_iff.2 hLn
     obtain ⟨m1, hm1⟩ : ∃ m, L.length = m + 1 := ⟨L.length - 1, by omega⟩
     obtain ⟨gs, hAs, _, hgs, hlc, hcm, ⟨_, hgb⟩, hLc⟩ := OwnN.at_ HOW.out hLn
     subst hAs
     have hgs20 : gs ≠ g20 := hgb.ne_ HJB.out (by decide)
     have hi0 : L.headD 0 = L[0] := by
      obtain ⟨x, r, hxr⟩ := List.exists_cons_of_ne_nil hLn
      subst hxr
      rfl
     have hi1 : L.getLastD 0 = L[m1]'(by omega) := by
      rw [List.getLastD_eq_getLast?, List.getLast?_eq_getElem?]
      rw [show L.length - 1 = m1 by omega, List.getElem?_eq_getElem (by omega)]
      rfl
     have s0 : W3.cell? ⟨gs, 0, none⟩ = some (.int .i64 (L[0] : Nat)) := hLc 0 hL0
     have s1 : W3.cell? ⟨gs, m1, none⟩ = some (.int .i64 ((L[m1]'(by omega) : Nat) : Int)) := hLc m1 (by omega)
     have hb0 := hL6 _ (List.getElem_mem hL0)
     have hb1 := hL6 _ (List.getElem_mem (show m1 < L.length by omega))
     have HFN : Hid (fin = (⟨id, 1, L, ttAt l L[0], ttAt l (L[m1]'(by omega))⟩, dsf)) := Lib.hid (by rw [HF.out]; unfold finP; rw [HFE.out]; unfold endP; rw [hi0, hi1])
     generalize L[0] = i0 at s0 hb0 HFN
     generalize L[m1]'(by omega) = j1 at s1 hb1 HFN
     have hTd := hT.then_ext hxd (Nat.le_trans hBw hT1.size)
     obtain ⟨b', ob, hz0, hA0, hbB0, hc0⟩ := (ra_tel HO.out (hT1.trans hTd)).at_ slt_len hb0
     subst hA0
     obtain ⟨b2, ob2, hz1, hA1, _, hc1⟩ := (ra_tel HO.out (hT1.trans hTd)).at_ slt_len hb1
     injection hA1 with hA1
     injection hA1 with hA1 hA2 _
     subst hA1 hA2
     have u0 : W3.cell? ⟨b', ob + i0 * 3 + 2, none⟩ = some (.int .i64 (ttAt l i0)) := by rw [ttAt_eq hz0]; exact hc0 2 (by omega)
     have u1 : W3.cell? ⟨b', ob + j1 * 3 + 2, none⟩ = some (.int .i64 (ttAt l j1)) := by rw [ttAt_eq hz1]; exact hc1 2 (by omega)
     clear hc0 hc1 hz0 hz1 hLc hi0 hi1
     generalize ttAt l i0 = t0 at u0 HFN
     generalize ttAt l j1 = t1 at u1 HFN
     have a8 : W3.cell? ⟨g6, 8, none⟩ = some (.slice (some ⟨b', ob, none⟩) n c) := (HJ6.out.tel hTd (by decide) hgd6).cell 8
     have hwr20 : w.heap.size ≤ wc.heap.size := (hT1.trans hT).size
     have hb20 : b' ≠ g20 := by omega
     have hg620 : g6 ≠ g20 := by have := (HJ6.out.tel hT (by decide) hgd6).lt; omega
     have jb : Blk W3 g20 76 #[.int .i64 id, .int .i64 1, .slice (some ⟨gs, 0, none⟩) (m1 + 1) c3, .int .i64 0, .int .i64 0] := by rw [← hm1]; exact HJB.out
     have hi0n : (i0 : Int) < (n : Int) := by omega
     have hi1n : (j1 : Int) < (n : Int) := by omega
     have hm1c : m1 + 1 ≤ c3 := by omega
     have hm16 : (m1 : Int) < 100000 := by have := hn6; have h2 := HLL.out; omega
     clear hgb hL6 hLn
     have HM1 := Lib.hid hm1
     clear hm1
     have hT' := tf_tr g20 (.int .i64 id) (.int .i64 1) (.slice (some ⟨gs, 0, none⟩) (m1 + 1) c3) (.int .i64 t0) (.int .i64 t1)
     go_upto_region 40 with (fail)
     refine RB.wp_region_obl (T := _) hT' 28 (fun ix vals v w1 => match ix with | 0 => v = .pointer (some ⟨g6, 8, none⟩) | 1 => v = .slice (some ⟨b', ob, none⟩) n c | 2 => v = .pointer (some ⟨g20, 2, none⟩) | 3 => v = .slice (some ⟨gs, 0, none⟩) (m1 + 1) c3 | 4 => v = .pointer (some ⟨gs, 0, none⟩) | 5 => v = .int .i64 (i0 : Int) | 6 => v = .pointer (some ⟨b', ob + i0 * 3, none⟩) | 7 => v = .pointer (some ⟨b', ob + i0 * 3 + 1, none⟩) | 8 => v = .pointer (some ⟨b', ob + i0 * 3 + 2, none⟩) | 9 => v = .int .i64 t0 | 10 => v = .pointer (some ⟨g6, 8, none⟩) | 11 => v = .slice (some ⟨b', ob, none⟩) n c | 12 => v = .pointer (some ⟨g20, 2, none⟩) | 13 => v = .slice (some ⟨gs, 0, none⟩) (m1 + 1) c3 | 14 => v = .pointer (some ⟨g20, 2, none⟩) | 15 => v = .slice (some ⟨gs, 0, none⟩) (m1 + 1) c3 | 16 => v = .int .i64 ((m1 + 1 : Nat) : Int) | 17 => v = .int .i64 (m1 : Int) | 18 => v = .pointer (some ⟨gs, m1, none⟩) | 19 => v = .int .i64 (j1 : Int) | 20 => v = .pointer (some ⟨b', ob + j1 * 3, none⟩) | 21 => v = .pointer (some ⟨b', ob + j1 * 3 + 1, none⟩) | 22 => v = .pointer (some ⟨b', ob + j1 * 3 + 2, none⟩) | 23 => v = .int .i64 t1 | 24 => v = .pointer (some ⟨g20, 3, none⟩) | 25 => ∃ y, Blk w1 g20 76 #[.int .i64 id, .int .i64 1, .slice (some ⟨gs, 0, none⟩) (m1 + 1) c3, .int .i64 t0, y] | 26 => v = .pointer (some ⟨g20, 4, none⟩) | _ => ∃ y, Blk w1 g20 76 #[.int .i64 id, .int .i64 1, .slice (some ⟨gs, 0, none⟩) (m1 + 1) c3, y, .int .i64 t1]) (by kernel_rfl) (by kernel_rfl) ?_ ?_ ?_ ?_
     ·intro ix vals v w1 w2 hi hr hx
      match ix, hr with
      | 0, hr => exact hr
      | 1, hr => exact hr
      | 2, hr => exact hr
      | 3, hr => exact hr
      | 4, hr => exact hr
      | 5, hr => exact hr
      | 6, hr => exact hr
      | 7, hr => exact hr
      | 8, hr => exact hr
      | 9, hr => exact hr
      | 10, hr => exact hr
      | 11, hr => exact hr
      | 12, hr => exact hr
      | 13, hr => exact hr
      | 14, hr => exact hr
      | 15, hr => exact hr
      | 16, hr => exact hr
      | 17, hr => exact hr
      | 18, hr => exact hr
      | 19, hr => exact hr
      | 20, hr => exact hr
      | 21, hr => exact hr
      | 22, hr => exact hr
      | 23, hr => exact hr
      | 24, hr => exact hr
      | 25, hr => obtain ⟨y, h⟩ := hr; obtain ⟨a', b'', h1, h2, _⟩ := hx.bx _ _ h; rw [h2 rfl] at h1; exact ⟨b'', h1⟩
      | 26, hr => exact hr
      | (kx + 27), hr => obtain ⟨y, h⟩ := hr; obtain ⟨a', b'', h1, _, h2⟩ := hx.bx _ _ h; rw [h2 rfl] at h1; exact ⟨a', h1⟩
     ·intro ix vals vals_ v w1 hi hv hr
      exact hr
     ·refine ⟨?_, ?_, ?_, ?_, ?_, ?_, ?_, ?_, ?_, ?_, ?_, ?_, ?_, ?_, ?_, ?_, ?_, ?_, ?_, ?_, ?_, ?_, ?_, ?_, ?_, ?_, ?_, ?_, trivial⟩
      ·intro vals w1 hx hd ha
       clear hd ha
       simp only [Lf]
       go_wp2
       exact ⟨rfl, hT'.refl _, rfl⟩
      ·intro vals w1 hx hd ha
       have e0 : vals 0 = .pointer (some ⟨g6, 8, none⟩) := hd 0 (by decide)
       clear hd ha
       simp only [Lf, dstAt, Act.put, List.getElem?_toArray, List.getElem?_cons_zero, Option.bind_some, List.setIfInBounds_toArray, List.set_cons_zero, List.set_cons_succ]
       simp only [e0]
       clear e0
       have a8 := hx.undrew.gr.cell a8 hg620
       go_wp2
       exact ⟨rfl, hT'.refl _, rfl⟩
      ·intro vals w1 hx hd ha
       clear hd ha
       simp only [Lf, dstAt, Act.put, List.getElem?_toArray, List.getElem?_cons_zero, List.getElem?_cons_succ, Option.bind_some, List.setIfInBounds_toArray, List.set_cons_zero, List.set_cons_succ]
       go_wp2
       exact ⟨rfl, hT'.refl _, rfl⟩
      ·intro vals w1 hx hd ha
       have e2 : vals 2 = .pointer (some ⟨g20, 2, none⟩) := hd 2 (by decide)
       clear hd ha
       simp only [Lf, dstAt, Act.put, List.getElem?_toArray, List.getElem?_cons_zero, List.getElem?_cons_succ, Option.bind_some, List.setIfInBounds_toArray, List.set_cons_zero, List.set_cons_succ]
       simp only [e2]
       clear e2
       obtain ⟨xa, xb, hbx, _, _⟩ := hx.undrew.bx _ _ jb; have b2 : w1.cell? ⟨g20, 2, none⟩ = some (.slice (some ⟨gs, 0, none⟩) (m1 + 1) c3) := hbx.cell 2; clear hbx
       go_wp2
       exact ⟨rfl, hT'.refl _, rfl⟩
      ·intro vals w1 hx hd ha
       have e3 : vals 3 = .slice (some ⟨gs, 0, none⟩) (m1 + 1) c3 := hd 3 (by decide)
       clear hd ha
       simp only [Lf, dstAt, Act.put, List.getElem?_toArray, List.getElem?_cons_zero, List.getElem?_cons_succ, Option.bind_some, List.setIfInBounds_toArray, List.set_cons_zero, List.set_cons_succ]
       simp only [e3]
       clear e3
       go_wp2
       exact ⟨rfl, hT'.refl _, rfl⟩
      ·intro vals w1 hx hd ha
       have e4 : vals 4 = .pointer (some ⟨gs, 0, none⟩) := hd 4 (by decide)
       clear hd ha
       simp only [Lf, dstAt, Act.put, List.getElem?_toArray, List.getElem?_cons_zero, List.getElem?_cons_succ, Option.bind_some, List.setIfInBounds_toArray, List.set_cons_zero, List.set_cons_succ]
       simp only [e4]
       clear e4
       have s0 := hx.undrew.gr.cell s0 hgs20
       go_wp2
       exact ⟨rfl, hT'.refl _, rfl⟩
      ·intro vals w1 hx hd ha
       have e1 : vals 1 = .slice (some ⟨b', ob, none⟩) n c := hd 1 (by decide)
       have e5 : vals 5 = .int .i64 (i0 : Int) := hd 5 (by decide)
       clear hd ha
       simp only [Lf, dstAt, Act.put, List.getElem?_toArray, List.getElem?_cons_zero, List.getElem?_cons_succ, Option.bind_some, List.setIfInBounds_toArray, List.set_cons_zero, List.set_cons_succ]
       simp only [e1, e5]
       clear e1 e5
       go_wp2
       exact ⟨rfl, hT'.refl _, rfl⟩
      ·intro vals w1 hx hd ha
       have e6 : vals 6 = .pointer (some ⟨b', ob + i0 * 3, none⟩) := hd 6 (by decide)
       clear hd ha
       simp only [Lf, dstAt, Act.put, List.getElem?_toArray, List.getElem?_cons_zero, List.getElem?_cons_succ, Option.bind_some, List.setIfInBounds_toArray, List.set_cons_zero, List.set_cons_succ]
       simp only [e6]
       clear e6
       go_wp2
       exact ⟨rfl, hT'.refl _, rfl⟩
      ·intro vals w1 hx hd ha
       have e7 : vals 7 = .pointer (some ⟨b', ob + i0 * 3 + 1, none⟩) := hd 7 (by decide)
       clear hd ha
       simp only [Lf, dstAt, Act.put, List.getElem?_toArray, List.getElem?_cons_zero, List.getElem?_cons_succ, Option.bind_some, List.setIfInBounds_toArray, List.set_cons_zero, List.set_cons_succ]
       simp only [e7]
       clear e7
       go_wp2
       exact ⟨rfl, hT'.refl _, rfl⟩
      ·intro vals w1 hx hd ha
       have e8 : vals 8 = .pointer (some ⟨b', ob + i0 * 3 + 2, none⟩) := hd 8 (by decide)
       clear hd ha
       simp only [Lf, dstAt, Act.put, List.getElem?_toArray, List.getElem?_cons_zero, List.getElem?_cons_succ, Option.bind_some, List.setIfInBounds_toArray, List.set_cons_zero, List.set_cons_succ]
       simp only [e8]
       clear e8
       have u0 := hx.undrew.gr.cell u0 hb20
       go_wp2
       exact ⟨rfl, hT'.refl _, rfl⟩
      ·intro vals w1 hx hd ha
       clear hd ha
       simp only [Lf, dstAt, Act.put, List.getElem?_toArray, List.getElem?_cons_zero, List.getElem?_cons_succ, Option.bind_some, List.setIfInBounds_toArray, List.set_cons_zero, List.set_cons_succ]
       go_wp2
       exact ⟨rfl, hT'.refl _, rfl⟩
      ·intro vals w1 hx hd ha
       have e10 : vals 10 = .pointer (some ⟨g6, 8, none⟩) := hd 10 (by decide)
       clear hd ha
       simp only [Lf, dstAt, Act.put, List.getElem?_toArray, List.getElem?_cons_zero, List.getElem?_cons_succ, Option.bind_some, List.setIfInBounds_toArray, List.set_cons_zero, List.set_cons_succ]
       simp only [e10]
       clear e10
       have a8 := hx.undrew.gr.cell a8 hg620
       go_wp2
       exact ⟨rfl, hT'.refl _, rfl⟩
      ·intro vals w1 hx hd ha
       clear hd ha
       simp only [Lf, dstAt, Act.put, List.getElem?_toArray, List.getElem?_cons_zero, List.getElem?_cons_succ, Option.bind_some, List.setIfInBounds_toArray, List.set_cons_zero, List.set_cons_succ]
       go_wp2
       exact ⟨rfl, hT'.refl _, rfl⟩
      ·intro vals w1 hx hd ha
       have e12 : vals 12 = .pointer (some ⟨g20, 2, none⟩) := hd 12 (by decide)
       clear hd ha
       simp only [Lf, dstAt, Act.put, List.getElem?_toArray, List.getElem?_cons_zero, List.getElem?_cons_succ, Option.bind_some, List.setIfInBounds_toArray, List.set_cons_zero, List.set_cons_succ]
       simp only [e12]
       clear e12
       obtain ⟨xa, xb, hbx, _, _⟩ := hx.undrew.bx _ _ jb; have b2 : w1.cell? ⟨g20, 2, none⟩ = some (.slice (some ⟨gs, 0, none⟩) (m1 + 1) c3) := hbx.cell 2; clear hbx
       go_wp2
       exact ⟨rfl, hT'.refl _, rfl⟩
      ·intro vals w1 hx hd ha
       clear hd ha
       simp only [Lf, dstAt, Act.put, List.getElem?_toArray, List.getElem?_cons_zero, List.getElem?_cons_succ, Option.bind_some, List.setIfInBounds_toArray, List.set_cons_zero, List.set_cons_succ]
       go_wp2
       exact ⟨rfl, hT'.refl _, rfl⟩
      ·intro vals w1 hx hd ha
       have e14 : vals 14 = .pointer (some ⟨g20, 2, none⟩) := hd 14 (by decide)
       clear hd ha
       simp only [Lf, dstAt, Act.put, List.getElem?_toArray, List.getElem?_cons_zero, List.getElem?_cons_succ, Option.bind_some, List.setIfInBounds_toArray, List.set_cons_zero, List.set_cons_succ]
       simp only [e14]
       clear e14
       obtain ⟨xa, xb, hbx, _, _⟩ := hx.undrew.bx _ _ jb; have b2 : w1.cell? ⟨g20, 2, none⟩ = some (.slice (some ⟨gs, 0, none⟩) (m1 + 1) c3) := hbx.cell 2; clear hbx
       go_wp2
       exact ⟨rfl, hT'.refl _, rfl⟩
      ·intro vals w1 hx hd ha
       have e15 : vals 15 = .slice (some ⟨gs, 0, none⟩) (m1 + 1) c3 := hd 15 (by decide)
       clear hd ha
       simp only [Lf, dstAt, Act.put, List.getElem?_toArray, List.getElem?_cons_zero, List.getElem?_cons_succ, Option.bind_some, List.setIfInBounds_toArray, List.set_cons_zero, List.set_cons_succ]
       simp only [e15]
       clear e15
       go_wp2
       exact ⟨rfl, hT'.refl _, rfl⟩
      ·intro vals w1 hx hd ha
       have e16 : vals 16 = .int .i64 ((m1 + 1 : Nat) : Int) := hd 16 (by decide)
       clear hd ha
       simp only [Lf, dstAt, Act.put, List.getElem?_toArray, List.getElem?_cons_zero, List.getElem?_cons_succ, Option.bind_some, List.setIfInBounds_toArray, List.set_cons_zero, List.set_cons_succ]
       simp only [e16]
       clear e16
       go_wp2
       exact ⟨rfl, hT'.refl _, by go_num⟩
      ·intro vals w1 hx hd ha
       have e13 : vals 13 = .slice (some ⟨gs, 0, none⟩) (m1 + 1) c3 := hd 13 (by decide)
       have e17 : vals 17 = .int .i64 (m1 : Int) := hd 17 (by decide)
       clear hd ha
       simp only [Lf, dstAt, Act.put, List.getElem?_toArray, List.getElem?_cons_zero, List.getElem?_cons_succ, Option.bind_some, List.setIfInBounds_toArray, List.set_cons_zero, List.set_cons_succ]
       simp only [e13, e17]
       clear e13 e17
       go_wp2
       exact ⟨rfl, hT'.refl _, rfl⟩
      ·intro vals w1 hx hd ha
       have e18 : vals 18 = .pointer (some ⟨gs, m1, none⟩) := hd 18 (by decide)
       clear hd ha
       simp only [Lf, dstAt, Act.put, List.getElem?_toArray, List.getElem?_cons_zero, List.getElem?_cons_succ, Option.bind_some, List.setIfInBounds_toArray, List.set_cons_zero, List.set_cons_succ]
       simp only [e18]
       clear e18
       have s1 := hx.undrew.gr.cell s1 hgs20
       go_wp2
       exact ⟨rfl, hT'.refl _, rfl⟩
      ·intro vals w1 hx hd ha
       have e11 : vals 11 = .slice (some ⟨b', ob, none⟩) n c := hd 11 (by decide)
       have e19 : vals 19 = .int .i64 (j1 : Int) := hd 19 (by decide)
       clear hd ha
       simp only [Lf, dstAt, Act.put, List.getElem?_toArray, List.getElem?_cons_zero, List.getElem?_cons_succ, Option.bind_some, List.setIfInBounds_toArray, List.set_cons_zero, List.set_cons_succ]
       simp only [e11, e19]
       clear e11 e19
       go_wp2
       exact ⟨rfl, hT'.refl _, rfl⟩
      ·intro vals w1 hx hd ha
       have e20 : vals 20 = .pointer (some ⟨b', ob + j1 * 3, none⟩) := hd 20 (by decide)
       clear hd ha
       simp only [Lf, dstAt, Act.put, List.getElem?_toArray, List.getElem?_cons_zero, List.getElem?_cons_succ, Option.bind_some, List.setIfInBounds_toArray, List.set_cons_zero, List.set_cons_succ]
       simp only [e20]
       clear e20
       go_wp2
       exact ⟨rfl, hT'.refl _, rfl⟩
      ·intro vals w1 hx hd ha
       have e21 : vals 21 = .pointer (some ⟨b', ob + j1 * 3 + 1, none⟩) := hd 21 (by decide)
       clear hd ha
       simp only [Lf, dstAt, Act.put, List.getElem?_toArray, List.getElem?_cons_zero, List.getElem?_cons_succ, Option.bind_some, List.setIfInBounds_toArray, List.set_cons_zero, List.set_cons_succ]
       simp only [e21]
       clear e21
       go_wp2
       exact ⟨rfl, hT'.refl _, rfl⟩
      ·intro vals w1 hx hd ha
       have e22 : vals 22 = .pointer (some ⟨b', ob + j1 * 3 + 2, none⟩) := hd 22 (by decide)
       clear hd ha
       simp only [Lf, dstAt, Act.put, List.getElem?_toArray, List.getElem?_cons_zero, List.getElem?_cons_succ, Option.bind_some, List.setIfInBounds_toArray, List.set_cons_zero, List.set_cons_succ]
       simp only [e22]
       clear e22
       have u1 := hx.undrew.gr.cell u1 hb20
       go_wp2
       exact ⟨rfl, hT'.refl _, rfl⟩
      ·intro vals w1 hx hd ha
       have e0 : vals 0 = .pointer (some ⟨g6, 8, none⟩) := hd 0 (by decide)
       have e1 : vals 1 = .slice (some ⟨b', ob, none⟩) n c := hd 1 (by decide)
       have e2 : vals 2 = .pointer (some ⟨g20, 2, none⟩) := hd 2 (by decide)
       have e3 : vals 3 = .slice (some ⟨gs, 0, none⟩) (m1 + 1) c3 := hd 3 (by decide)
       have e4 : vals 4 = .pointer (some ⟨gs, 0, none⟩) := hd 4 (by decide)
       have e5 : vals 5 = .int .i64 (i0 : Int) := hd 5 (by decide)
       have e6 : vals 6 = .pointer (some ⟨b', ob + i0 * 3, none⟩) := hd 6 (by decide)
       have e7 : vals 7 = .pointer (some ⟨b', ob + i0 * 3 + 1, none⟩) := hd 7 (by decide)
       have e8 : vals 8 = .pointer (some ⟨b', ob + i0 * 3 + 2, none⟩) := hd 8 (by decide)
       have e9 : vals 9 = .int .i64 t0 := hd 9 (by decide)
       have e12 : vals 12 = .pointer (some ⟨g20, 2, none⟩) := hd 12 (by decide)
       have e13 : vals 13 = .slice (some ⟨gs, 0, none⟩) (m1 + 1) c3 := hd 13 (by decide)
       have e14 : vals 14 = .pointer (some ⟨g20, 2, none⟩) := hd 14 (by decide)
       have e15 : vals 15 = .slice (some ⟨gs, 0, none⟩) (m1 + 1) c3 := hd 15 (by decide)
       clear hd ha
       simp only [Lf, dstAt, Act.put, List.getElem?_toArray, List.getElem?_cons_zero, List.getElem?_cons_succ, Option.bind_some, List.setIfInBounds_toArray, List.set_cons_zero, List.set_cons_succ]
       simp only [e0, e1, e2, e3, e4, e5, e6, e7, e8, e9, e12, e13, e14, e15]
       clear e0 e1 e2 e3 e4 e5 e6 e7 e8 e9 e12 e13 e14 e15
       go_wp2
       exact ⟨rfl, hT'.refl _, rfl⟩
      ·intro vals w1 hx hd ha
       have e0 : vals 0 = .pointer (some ⟨g6, 8, none⟩) := hd 0 (by decide)
       have e1 : vals 1 = .slice (some ⟨b', ob, none⟩) n c := hd 1 (by decide)
       have e2 : vals 2 = .pointer (some ⟨g20, 2, none⟩) := hd 2 (by decide)
       have e3 : vals 3 = .slice (some ⟨gs, 0, none⟩) (m1 + 1) c3 := hd 3 (by decide)
       have e4 : vals 4 = .pointer (some ⟨gs, 0, none⟩) := hd 4 (by decide)
       have e5 : vals 5 = .int .i64 (i0 : Int) := hd 5 (by decide)
       have e6 : vals 6 = .pointer (some ⟨b', ob + i0 * 3, none⟩) := hd 6 (by decide)
       have e7 : vals 7 = .pointer (some ⟨b', ob + i0 * 3 + 1, none⟩) := hd 7 (by decide)
       have e8 : vals 8 = .pointer (some ⟨b', ob + i0 * 3 + 2, none⟩) := hd 8 (by decide)
       have e9 : vals 9 = .int .i64 t0 := hd 9 (by decide)
       have e12 : vals 12 = .pointer (some ⟨g20, 2, none⟩) := hd 12 (by decide)
       have e13 : vals 13 = .slice (some ⟨gs, 0, none⟩) (m1 + 1) c3 := hd 13 (by decide)
       have e14 : vals 14 = .pointer (some ⟨g20, 2, none⟩) := hd 14 (by decide)
       have e15 : vals 15 = .slice (some ⟨gs, 0, none⟩) (m1 + 1) c3 := hd 15 (by decide)
       have e24 : vals 24 = .pointer (some ⟨g20, 3, none⟩) := hd 24 (by decide)
       clear hd ha
       simp only [Lf, dstAt, Act.put, List.getElem?_toArray, List.getElem?_cons_zero, List.getElem?_cons_succ, Option.bind_some, List.setIfInBounds_toArray, List.set_cons_zero, List.set_cons_succ]
       simp only [e0]
       simp only [e1]
       simp only [e2]
       simp only [e3]
       simp only [e4]
       simp only [e5]
       simp only [e6]
       simp only [e7]
       simp only [e8]
       simp only [e9]
       simp only [e12]
       simp only [e13]
       simp only [e14]
       simp only [e15]
       simp only [e24]
       clear e0 e1 e2 e3 e4 e5 e6 e7 e8 e9 e12 e13 e14 e15 e24
       obtain ⟨xa, xb, hbx, _, _⟩ := hx.undrew.bx _ _ jb
       have f3 : w1.cell? ⟨g20, 3, none⟩ = some xa := hbx.cell 3
       have fz : w1.frozen? ⟨g20, 3, none⟩ = false := hbx.frozen 3
       have hbx := Lib.hid hbx
       go_wp2
       exact ⟨rfl, TF.set3, xb, hbx.out.set_ 3 _⟩
      ·intro vals w1 hx hd ha
       have e0 : vals 0 = .pointer (some ⟨g6, 8, none⟩) := hd 0 (by decide)
       have e1 : vals 1 = .slice (some ⟨b', ob, none⟩) n c := hd 1 (by decide)
       have e2 : vals 2 = .pointer (some ⟨g20, 2, none⟩) := hd 2 (by decide)
       have e3 : vals 3 = .slice (some ⟨gs, 0, none⟩) (m1 + 1) c3 := hd 3 (by decide)
       have e4 : vals 4 = .pointer (some ⟨gs, 0, none⟩) := hd 4 (by decide)
       have e5 : vals 5 = .int .i64 (i0 : Int) := hd 5 (by decide)
       have e6 : vals 6 = .pointer (some ⟨b', ob + i0 * 3, none⟩) := hd 6 (by decide)
       have e7 : vals 7 = .pointer (some ⟨b', ob + i0 * 3 + 1, none⟩) := hd 7 (by decide)
       have e8 : vals 8 = .pointer (some ⟨b', ob + i0 * 3 + 2, none⟩) := hd 8 (by decide)
       have e9 : vals 9 = .int .i64 t0 := hd 9 (by decide)
       have e10 : vals 10 = .pointer (some ⟨g6, 8, none⟩) := hd 10 (by decide)
       have e11 : vals 11 = .slice (some ⟨b', ob, none⟩) n c := hd 11 (by decide)
       have e12 : vals 12 = .pointer (some ⟨g20, 2, none⟩) := hd 12 (by decide)
       have e13 : vals 13 = .slice (some ⟨gs, 0, none⟩) (m1 + 1) c3 := hd 13 (by decide)
       have e14 : vals 14 = .pointer (some ⟨g20, 2, none⟩) := hd 14 (by decide)
       have e15 : vals 15 = .slice (some ⟨gs, 0, none⟩) (m1 + 1) c3 := hd 15 (by decide)
       have e16 : vals 16 = .int .i64 ((m1 + 1 : Nat) : Int) := hd 16 (by decide)
       have e17 : vals 17 = .int .i64 (m1 : Int) := hd 17 (by decide)
       have e18 : vals 18 = .pointer (some ⟨gs, m1, none⟩) := hd 18 (by decide)
       have e19 : vals 19 = .int .i64 (j1 : Int) := hd 19 (by decide)
       have e20 : vals 20 = .pointer (some ⟨b', ob + j1 * 3, none⟩) := hd 20 (by decide)
       have e21 : vals 21 = .pointer (some ⟨b', ob + j1 * 3 + 1, none⟩) := hd 21 (by decide)
       have e22 : vals 22 = .pointer (some ⟨b', ob + j1 * 3 + 2, none⟩) := hd 22 (by decide)
       have e23 : vals 23 = .int .i64 t1 := hd 23 (by decide)
       have e24 : vals 24 = .pointer (some ⟨g20, 3, none⟩) := hd 24 (by decide)
       have r25 : (fun v w1 => ∃ y, Blk w1 g20 76 #[.int .i64 id, .int .i64 1, .slice (some ⟨gs, 0, none⟩) (m1 + 1) c3, .int .i64 t0, y]) (vals 25) w1 := hd 25 (by decide)
       dsimp only at r25
       clear hd ha
       simp only [Lf, dstAt, Act.put, List.getElem?_toArray, List.getElem?_cons_zero, List.getElem?_cons_succ, Option.bind_some, List.setIfInBounds_toArray, List.set_cons_zero, List.set_cons_succ]
       simp only [e0, e1, e2, e3, e4, e5, e6, e7, e8, e9, e10, e11, e12, e13, e14, e15, e16, e17, e18, e19, e20, e21, e22, e23, e24]
       clear e0 e1 e2 e3 e4 e5 e6 e7 e8 e9 e10 e11 e12 e13 e14 e15 e16 e17 e18 e19 e20 e21 e22 e23 e24
       go_wp2
       exact ⟨rfl, hT'.refl _, rfl⟩
      ·intro vals w1 hx hd ha
       have e0 : vals 0 = .pointer (some ⟨g6, 8, none⟩) := hd 0 (by decide)
       have e1 : vals 1 = .slice (some ⟨b', ob, none⟩) n c := hd 1 (by decide)
       have e2 : vals 2 = .pointer (some ⟨g20, 2, none⟩) := hd 2 (by decide)
       have e3 : vals 3 = .slice (some ⟨gs, 0, none⟩) (m1 + 1) c3 := hd 3 (by decide)
       have e4 : vals 4 = .pointer (some ⟨gs, 0, none⟩) := hd 4 (by decide)
       have e5 : vals 5 = .int .i64 (i0 : Int) := hd 5 (by decide)
       have e6 : vals 6 = .pointer (some ⟨b', ob + i0 * 3, none⟩) := hd 6 (by decide)
       have e7 : vals 7 = .pointer (some ⟨b', ob + i0 * 3 + 1, none⟩) := hd 7 (by decide)
       have e8 : vals 8 = .pointer (some ⟨b', ob + i0 * 3 + 2, none⟩) := hd 8 (by decide)
       have e9 : vals 9 = .int .i64 t0 := hd 9 (by decide)
       have e10 : vals 10 = .pointer (some ⟨g6, 8, none⟩) := hd 10 (by decide)
       have e11 : vals 11 = .slice (some ⟨b', ob, none⟩) n c := hd 11 (by decide)
       have e12 : vals 12 = .pointer (some ⟨g20, 2, none⟩) := hd 12 (by decide)
       have e13 : vals 13 = .slice (some ⟨gs, 0, none⟩) (m1 + 1) c3 := hd 13 (by decide)
       have e14 : vals 14 = .pointer (some ⟨g20, 2, none⟩) := hd 14 (by decide)
       have e15 : vals 15 = .slice (some ⟨gs, 0, none⟩) (m1 + 1) c3 := hd 15 (by decide)
       have e16 : vals 16 = .int .i64 ((m1 + 1 : Nat) : Int) := hd 16 (by decide)
       have e17 : vals 17 = .int .i64 (m1 : Int) := hd 17 (by decide)
       have e18 : vals 18 = .pointer (some ⟨gs, m1, none⟩) := hd 18 (by decide)
       have e19 : vals 19 = .int .i64 (j1 : Int) := hd 19 (by decide)
       have e20 : vals 20 = .pointer (some ⟨b', ob + j1 * 3, none⟩) := hd 20 (by decide)
       have e21 : vals 21 = .pointer (some ⟨b', ob + j1 * 3 + 1, none⟩) := hd 21 (by decide)
       have e22 : vals 22 = .pointer (some ⟨b', ob + j1 * 3 + 2, none⟩) := hd 22 (by decide)
       have e23 : vals 23 = .int .i64 t1 := hd 23 (by decide)
       have e24 : vals 24 = .pointer (some ⟨g20, 3, none⟩) := hd 24 (by decide)
       have r25 : (fun v w1 => ∃ y, Blk w1 g20 76 #[.int .i64 id, .int .i64 1, .slice (some ⟨gs, 0, none⟩) (m1 + 1) c3, .int .i64 t0, y]) (vals 25) w1 := hd 25 (by decide)
       dsimp only at r25
       have e26 : vals 26 = .pointer (some ⟨g20, 4, none⟩) := hd 26 (by decide)
       clear hd ha
       simp only [Lf, dstAt, Act.put, List.getElem?_toArray, List.getElem?_cons_zero, List.getElem?_cons_succ, Option.bind_some, List.setIfInBounds_toArray, List.set_cons_zero, List.set_cons_succ]
       simp only [e0]
       simp only [e1]
       simp only [e2]
       simp only [e3]
       simp only [e4]
       simp only [e5]
       simp only [e6]
       simp only [e7]
       simp only [e8]
       simp only [e9]
       simp only [e10]
       simp only [e11]
       simp only [e12]
       simp only [e13]
       simp only [e14]
       simp only [e15]
       simp only [e16]
       simp only [e17]
       simp only [e18]
       simp only [e19]
       simp only [e20]
       simp only [e21]
       simp only [e22]
       simp only [e23]
       simp only [e24]
       simp only [e26]
       clear e0 e1 e2 e3 e4 e5 e6 e7 e8 e9 e10 e11 e12 e13 e14 e15 e16 e17 e18 e19 e20 e21 e22 e23 e24 e26
       obtain ⟨xa, xb, hbx, _, _⟩ := hx.undrew.bx _ _ jb
       have f3 : w1.cell? ⟨g20, 4, none⟩ = some xb := hbx.cell 4
       have fz : w1.frozen? ⟨g20, 4, none⟩ = false := hbx.frozen 4
       have hbx := Lib.hid hbx
       go_wp2
       exact ⟨rfl, TF.set4, xa, hbx.out.set_ 4 _⟩
     intro vals W4 hy hf
     have hbR : Blk W4 g20 76 #[.int .i64 id, .int .i64 1, .slice (some ⟨gs, 0, none⟩) L.length c3, .int .i64 t0, .int .i64 t1] := by
      obtain ⟨y1, h1⟩ : ∃ y, Blk W4 g20 76 #[.int .i64 id, .int .i64 1, .slice (some ⟨gs, 0, none⟩) (m1 + 1) c3, .int .i64 t0, y] := hf 25 (by omega)
      obtain ⟨y2, h2⟩ : ∃ y, Blk W4 g20 76 #[.int .i64 id, .int .i64 1, .slice (some ⟨gs, 0, none⟩) (m1 + 1) c3, y, .int .i64 t1] := hf 27 (by omega)
      rw [HM1.out]
      exact fate_two h1 h2
     have hone4 := hy.undrew.gr
     have hoR := One.own hone4 HOW.out jb (by decide)
     have hxR := hone4.ext hxd hg20
     clear hy hf a8 s0 s1 u0 u1 jb hT' hone4 HJB
     refine tail0 (by kernel_rfl) ?_
     simp only [Lf, dstAt, Act.put, List.getElem?_toArray, List.getElem?_cons_zero, List.getElem?_cons_succ, Option.bind_some, List.setIfInBounds_toArray, List.set_cons_zero, List.set_cons_succ]
     clear hlc hcm hm1c hi0n hi1n hm16 hb20 hb0 hb1 hL0 hgs20 hg620 hwr20 hbB0 hgs
     have hT9 := hT.then_ext hxR (Nat.le_trans hBw hT1.size)
     have hj10 := HJ10.out.tel hT9 (by decide) hgd5
     have x0 : W4.cell? ⟨g20, 0, none⟩ = some (.int .i64 id) := hbR.cell 0
     have x1 : W4.cell? ⟨g20, 1, none⟩ = some (.int .i64 1) := hbR.cell 1
     have x2 : W4.cell? ⟨g20, 2, none⟩ = some (.slice (some ⟨gs, 0, none⟩) L.length c3) := hbR.cell 2
     have x3 : W4.cell? ⟨g20, 3, none⟩ = some (.int .i64 t0) := hbR.cell 3
     have x4 : W4.cell? ⟨g20, 4, none⟩ = some (.int .i64 t1) := hbR.cell 4
     have jr := hj10.row #[.int .i64 id, .int .i64 1, .slice (some ⟨gs, 0, none⟩) L.length c3, .int .i64 t0, .int .i64 t1]
     have hone := (One.refl g10 W4).row #[.int .i64 id, .int .i64 1, .slice (some ⟨gs, 0, none⟩) L.length c3, .int .i64 t0, .int .i64 t1]
     have HDF := Lib.hid (One.ds hone (HD.out.ext hxR) hj10 (by decide) hgd5)
     have HOF := Lib.hid (own_base (One.own hone hoR hj10 (by decide)) (hT1.trans hT).size)
     have HTF := Lib.hid (One.tel hone (hT1.trans hT9) hw10 hBw)
     have HJS := Lib.hid hj10
     have HJR := Lib.hid jr
     clear hT9 hj10 jr hone hbR hoR hxR
     go_wp2_with (refine wpList_store_row rfl _ _ _ rfl g10 #[.int .i64 id, .int .i64 1, .slice (some ⟨gs, 0, none⟩) L.length c3, .int .i64 t0, .int .i64 t1] rfl rfl 76 _ HJS.out fate_size rfl (by simp [Value.oneCell']) ?_)
     exact bodyPost_ret (results_row Try.results51 _ _ g10 _ rfl HJR.out _ Try.underlying76 rfl fate_size) rfl (by unfold FateRet; rw [HFN.out]; exact ⟨_, _, rfl, HOF.out, HDF.out, HTF.out⟩)
end Go.Proofs.Ytmlabgmigakcbaa
