/- IndexFunc and ContainsFunc, for any predicate (printed by eph_idx.py). -/
import Derived.Test.YtjidhhfabfnhnaaGreatK10
namespace Go.Proofs.YtjidhhfabfnhnaaGreat
open Go.RowKit
structure Slt where
 p : Int
 fr : Int
 tt : Int
def sltCells (s : Slt) : List Value:=[.int .i64 s.p,.int .i64 s.fr,.int .i64 s.tt]
theorem slt_len (s : Slt) : (sltCells s).length = 3:=rfl
theorem slt_size : (Tryz.prog.info? 103).map (·.size) = some 3:=by kernel_rfl
theorem index_St (p : St → Bool) (K : Nat) (caps : Array Value) (eg : ∀ args w,(callFunc K args).run Tryz.prog w = .ok (.enter K args) w) (l : List St) (A : Option Addr) (n c : Nat) (w : World) (h : RA satCells 21 w w.heap.size A n c l)
  (hp : ∀ (x : St) (W : World),Ext w W → Calls Tryz.prog K (#[.agg (satCells x).toArray] ++ caps) W fun e w' => e = .returned (.bool (p x)) ∧ Ext W w') :
  Calls Tryz.prog 98 #[.slice A n c,.func (.func K) #[] caps] w fun e w' => e = .returned (.int .i64 (idxA p l 0)) ∧ Ext w w':=by
 have HR:=Lib.hid h
 have hle:=h.le
 have HL:=Lib.hid h.len
 have HP:=Lib.hid hp
 clear h hp
 go_enter Tryz.func98,Tryz.ntmps98
 go_wp2
 go_loopw [8] (fun i wr => ∃ k : Nat,k ≤ n ∧ i = .int .i64 k ∧ Hid (idxA p l 0 = idxA p (l.drop k) k) ∧ Ext w wr) (fun i _ => n - (intOf i).toNat)
 case atStart => exact ⟨0,Nat.zero_le _,rfl,rfl,Below.refl _ _⟩
 case round =>
  obtain ⟨k,hk,rfl,H,hB⟩:=hrel
  by_cases hlt : k < n
  ·obtain ⟨b,o,hz,hA,hbl,hc⟩:=RA.range sat_len (HR.out.below hB) hlt
   have hst:=idxA_drop p l k hz
   rw [← H.out] at hst
   generalize l[k] = x at hst hc
   have hv:=HP.out x wr hB
   obtain ⟨X,hX⟩ : ∃ X,(satCells x).toArray = X:=⟨_,rfl⟩
   rw [hX] at hv
   generalize p x = q at hst hv
   have HX:=Lib.hid hX
   have HV:=Lib.hid hv
   have HS:=Lib.hid hst
   have HCC:=Lib.hid hc
   clear hX hv hst hc
   subst hA
   go_wp2_with (refine wpList_load_st rfl _ _ rfl b (o + k * 21) rfl X (satCells x) HX.out _ HCC.out Tryz.underlying53 rfl sat_size ?_)
   refine HV.out.mono ?_
   rintro e w2 ⟨rfl,hb2⟩
   have hB2 : Ext w w2:=Ext.trans hB hb2
   cases q
   ·go_wp2
    go_roundw
    case rel => exact ⟨k + 1,by omega,by go_num,HS.out.trans (by simp),hB2⟩
    case measure => simp [intOf]; omega
   ·go_wp2
    go_ret
    exact ⟨by rw [HS.out]; simp,hB2⟩
  ·go_wp2
   go_ret
   exact ⟨by rw [H.out,List.drop_of_length_le (by rw [HL.out]; omega)]; rfl,hB⟩
theorem contains_St (p : St → Bool) (K : Nat) (caps : Array Value) (eg : ∀ args w,(callFunc K args).run Tryz.prog w = .ok (.enter K args) w) (l : List St) (A : Option Addr) (n c : Nat) (w : World) (h : RA satCells 21 w w.heap.size A n c l)
  (hp : ∀ (x : St) (W : World),Ext w W → Calls Tryz.prog K (#[.agg (satCells x).toArray] ++ caps) W fun e w' => e = .returned (.bool (p x)) ∧ Ext W w') :
  Calls Tryz.prog 69 #[.slice A n c,.func (.func K) #[] caps] w fun e w' => e = .returned (.bool (l.any p)) ∧ Ext w w':=by
 have hf:=index_St p K caps eg l A n c w h hp
 have hbb : l.any p = decide (0 ≤ idxA p l 0):=by
  rw [Bool.eq_iff_iff,decide_eq_true_iff,idxA_any _ _ 0 (by omega)]
 rw [hbb]
 generalize idxA p l 0 = r at hf
 have HF:=Lib.hid hf
 clear hf hbb h hp
 go_enter Tryz.func69,Tryz.ntmps69
 go_wp2_with (go_at_call 98; refine HF.out.mono ?_; rintro e w' ⟨rfl,hb'⟩)
 go_ret
 exact ⟨rfl,(by repeat (first | exact Below.refl _ _ | assumption | refine Below.drew ?_ | refine below_drewN ?_ _ | refine bl_alloc ?_ _ | refine Below.setCell ?_ (by first | (simp; done) | omega | (simp; omega)) _ | refine bl_then ?_ (by assumption)))⟩
theorem index_Upd (p : Upd → Bool) (K : Nat) (caps : Array Value) (eg : ∀ args w,(callFunc K args).run Tryz.prog w = .ok (.enter K args) w) (l : List Upd) (A : Option Addr) (n c : Nat) (w : World) (h : RA updCells 10 w w.heap.size A n c l)
  (hp : ∀ (x : Upd) (W : World),Ext w W → Calls Tryz.prog K (#[.agg (updCells x).toArray] ++ caps) W fun e w' => e = .returned (.bool (p x)) ∧ Ext W w') :
  Calls Tryz.prog 150 #[.slice A n c,.func (.func K) #[] caps] w fun e w' => e = .returned (.int .i64 (idxA p l 0)) ∧ Ext w w':=by
 have HR:=Lib.hid h
 have hle:=h.le
 have HL:=Lib.hid h.len
 have HP:=Lib.hid hp
 clear h hp
 go_enter Tryz.func150,Tryz.ntmps150
 go_wp2
 go_loopw [8] (fun i wr => ∃ k : Nat,k ≤ n ∧ i = .int .i64 k ∧ Hid (idxA p l 0 = idxA p (l.drop k) k) ∧ Ext w wr) (fun i _ => n - (intOf i).toNat)
 case atStart => exact ⟨0,Nat.zero_le _,rfl,rfl,Below.refl _ _⟩
 case round =>
  obtain ⟨k,hk,rfl,H,hB⟩:=hrel
  by_cases hlt : k < n
  ·obtain ⟨b,o,hz,hA,hbl,hc⟩:=RA.range upd_len (HR.out.below hB) hlt
   have hst:=idxA_drop p l k hz
   rw [← H.out] at hst
   generalize l[k] = x at hst hc
   have hv:=HP.out x wr hB
   obtain ⟨X,hX⟩ : ∃ X,(updCells x).toArray = X:=⟨_,rfl⟩
   rw [hX] at hv
   generalize p x = q at hst hv
   have HX:=Lib.hid hX
   have HV:=Lib.hid hv
   have HS:=Lib.hid hst
   have HCC:=Lib.hid hc
   clear hX hv hst hc
   subst hA
   go_wp2_with (refine wpList_load_st rfl _ _ rfl b (o + k * 10) rfl X (updCells x) HX.out _ HCC.out Tryz.underlying66 rfl upd_size ?_)
   refine HV.out.mono ?_
   rintro e w2 ⟨rfl,hb2⟩
   have hB2 : Ext w w2:=Ext.trans hB hb2
   cases q
   ·go_wp2
    go_roundw
    case rel => exact ⟨k + 1,by omega,by go_num,HS.out.trans (by simp),hB2⟩
    case measure => simp [intOf]; omega
   ·go_wp2
    go_ret
    exact ⟨by rw [HS.out]; simp,hB2⟩
  ·go_wp2
   go_ret
   exact ⟨by rw [H.out,List.drop_of_length_le (by rw [HL.out]; omega)]; rfl,hB⟩
theorem index_Pas (p : Pas → Bool) (K : Nat) (caps : Array Value) (eg : ∀ args w,(callFunc K args).run Tryz.prog w = .ok (.enter K args) w) (l : List Pas) (A : Option Addr) (n c : Nat) (w : World) (h : RA pasCells 6 w w.heap.size A n c l)
  (hp : ∀ (x : Pas) (W : World),Ext w W → Calls Tryz.prog K (#[.agg (pasCells x).toArray] ++ caps) W fun e w' => e = .returned (.bool (p x)) ∧ Ext W w') :
  Calls Tryz.prog 124 #[.slice A n c,.func (.func K) #[] caps] w fun e w' => e = .returned (.int .i64 (idxA p l 0)) ∧ Ext w w':=by
 have HR:=Lib.hid h
 have hle:=h.le
 have HL:=Lib.hid h.len
 have HP:=Lib.hid hp
 clear h hp
 go_enter Tryz.func124,Tryz.ntmps124
 go_wp2
 go_loopw [8] (fun i wr => ∃ k : Nat,k ≤ n ∧ i = .int .i64 k ∧ Hid (idxA p l 0 = idxA p (l.drop k) k) ∧ Ext w wr) (fun i _ => n - (intOf i).toNat)
 case atStart => exact ⟨0,Nat.zero_le _,rfl,rfl,Below.refl _ _⟩
 case round =>
  obtain ⟨k,hk,rfl,H,hB⟩:=hrel
  by_cases hlt : k < n
  ·obtain ⟨b,o,hz,hA,hbl,hc⟩:=RA.range pas_len (HR.out.below hB) hlt
   have hst:=idxA_drop p l k hz
   rw [← H.out] at hst
   generalize l[k] = x at hst hc
   have hv:=HP.out x wr hB
   obtain ⟨X,hX⟩ : ∃ X,(pasCells x).toArray = X:=⟨_,rfl⟩
   rw [hX] at hv
   generalize p x = q at hst hv
   have HX:=Lib.hid hX
   have HV:=Lib.hid hv
   have HS:=Lib.hid hst
   have HCC:=Lib.hid hc
   clear hX hv hst hc
   subst hA
   go_wp2_with (refine wpList_load_st rfl _ _ rfl b (o + k * 6) rfl X (pasCells x) HX.out _ HCC.out Tryz.underlying75 rfl pas_size ?_)
   refine HV.out.mono ?_
   rintro e w2 ⟨rfl,hb2⟩
   have hB2 : Ext w w2:=Ext.trans hB hb2
   cases q
   ·go_wp2
    go_roundw
    case rel => exact ⟨k + 1,by omega,by go_num,HS.out.trans (by simp),hB2⟩
    case measure => simp [intOf]; omega
   ·go_wp2
    go_ret
    exact ⟨by rw [HS.out]; simp,hB2⟩
  ·go_wp2
   go_ret
   exact ⟨by rw [H.out,List.drop_of_length_le (by rw [HL.out]; omega)]; rfl,hB⟩
theorem contains_Pas (p : Pas → Bool) (K : Nat) (caps : Array Value) (eg : ∀ args w,(callFunc K args).run Tryz.prog w = .ok (.enter K args) w) (l : List Pas) (A : Option Addr) (n c : Nat) (w : World) (h : RA pasCells 6 w w.heap.size A n c l)
  (hp : ∀ (x : Pas) (W : World),Ext w W → Calls Tryz.prog K (#[.agg (pasCells x).toArray] ++ caps) W fun e w' => e = .returned (.bool (p x)) ∧ Ext W w') :
  Calls Tryz.prog 64 #[.slice A n c,.func (.func K) #[] caps] w fun e w' => e = .returned (.bool (l.any p)) ∧ Ext w w':=by
 have hf:=index_Pas p K caps eg l A n c w h hp
 have hbb : l.any p = decide (0 ≤ idxA p l 0):=by
  rw [Bool.eq_iff_iff,decide_eq_true_iff,idxA_any _ _ 0 (by omega)]
 rw [hbb]
 generalize idxA p l 0 = r at hf
 have HF:=Lib.hid hf
 clear hf hbb h hp
 go_enter Tryz.func64,Tryz.ntmps64
 go_wp2_with (go_at_call 124; refine HF.out.mono ?_; rintro e w' ⟨rfl,hb'⟩)
 go_ret
 exact ⟨rfl,(by repeat (first | exact Below.refl _ _ | assumption | refine Below.drew ?_ | refine below_drewN ?_ _ | refine bl_alloc ?_ _ | refine Below.setCell ?_ (by first | (simp; done) | omega | (simp; omega)) _ | refine bl_then ?_ (by assumption)))⟩
theorem index_Slt (p : Slt → Bool) (K : Nat) (caps : Array Value) (eg : ∀ args w,(callFunc K args).run Tryz.prog w = .ok (.enter K args) w) (l : List Slt) (A : Option Addr) (n c : Nat) (w : World) (h : RA sltCells 3 w w.heap.size A n c l)
  (hp : ∀ (x : Slt) (W : World),Ext w W → Calls Tryz.prog K (#[.agg (sltCells x).toArray] ++ caps) W fun e w' => e = .returned (.bool (p x)) ∧ Ext W w') :
  Calls Tryz.prog 146 #[.slice A n c,.func (.func K) #[] caps] w fun e w' => e = .returned (.int .i64 (idxA p l 0)) ∧ Ext w w':=by
 have HR:=Lib.hid h
 have hle:=h.le
 have HL:=Lib.hid h.len
 have HP:=Lib.hid hp
 clear h hp
 go_enter Tryz.func146,Tryz.ntmps146
 go_wp2
 go_loopw [8] (fun i wr => ∃ k : Nat,k ≤ n ∧ i = .int .i64 k ∧ Hid (idxA p l 0 = idxA p (l.drop k) k) ∧ Ext w wr) (fun i _ => n - (intOf i).toNat)
 case atStart => exact ⟨0,Nat.zero_le _,rfl,rfl,Below.refl _ _⟩
 case round =>
  obtain ⟨k,hk,rfl,H,hB⟩:=hrel
  by_cases hlt : k < n
  ·obtain ⟨b,o,hz,hA,hbl,hc⟩:=RA.range slt_len (HR.out.below hB) hlt
   have hst:=idxA_drop p l k hz
   rw [← H.out] at hst
   generalize l[k] = x at hst hc
   have hv:=HP.out x wr hB
   obtain ⟨X,hX⟩ : ∃ X,(sltCells x).toArray = X:=⟨_,rfl⟩
   rw [hX] at hv
   generalize p x = q at hst hv
   have HX:=Lib.hid hX
   have HV:=Lib.hid hv
   have HS:=Lib.hid hst
   have HCC:=Lib.hid hc
   clear hX hv hst hc
   subst hA
   go_wp2_with (refine wpList_load_st rfl _ _ rfl b (o + k * 3) rfl X (sltCells x) HX.out _ HCC.out Tryz.underlying103 rfl slt_size ?_)
   refine HV.out.mono ?_
   rintro e w2 ⟨rfl,hb2⟩
   have hB2 : Ext w w2:=Ext.trans hB hb2
   cases q
   ·go_wp2
    go_roundw
    case rel => exact ⟨k + 1,by omega,by go_num,HS.out.trans (by simp),hB2⟩
    case measure => simp [intOf]; omega
   ·go_wp2
    go_ret
    exact ⟨by rw [HS.out]; simp,hB2⟩
  ·go_wp2
   go_ret
   exact ⟨by rw [H.out,List.drop_of_length_le (by rw [HL.out]; omega)]; rfl,hB⟩
theorem contains_Slt (p : Slt → Bool) (K : Nat) (caps : Array Value) (eg : ∀ args w,(callFunc K args).run Tryz.prog w = .ok (.enter K args) w) (l : List Slt) (A : Option Addr) (n c : Nat) (w : World) (h : RA sltCells 3 w w.heap.size A n c l)
  (hp : ∀ (x : Slt) (W : World),Ext w W → Calls Tryz.prog K (#[.agg (sltCells x).toArray] ++ caps) W fun e w' => e = .returned (.bool (p x)) ∧ Ext W w') :
  Calls Tryz.prog 102 #[.slice A n c,.func (.func K) #[] caps] w fun e w' => e = .returned (.bool (l.any p)) ∧ Ext w w':=by
 have hf:=index_Slt p K caps eg l A n c w h hp
 have hbb : l.any p = decide (0 ≤ idxA p l 0):=by
  rw [Bool.eq_iff_iff,decide_eq_true_iff,idxA_any _ _ 0 (by omega)]
 rw [hbb]
 generalize idxA p l 0 = r at hf
 have HF:=Lib.hid hf
 clear hf hbb h hp
 go_enter Tryz.func102,Tryz.ntmps102
 go_wp2_with (go_at_call 146; refine HF.out.mono ?_; rintro e w' ⟨rfl,hb'⟩)
 go_ret
 exact ⟨rfl,(by repeat (first | exact Below.refl _ _ | assumption | refine Below.drew ?_ | refine below_drewN ?_ _ | refine bl_alloc ?_ _ | refine Below.setCell ?_ (by first | (simp; done) | omega | (simp; omega)) _ | refine bl_then ?_ (by assumption)))⟩
end Go.Proofs.YtjidhhfabfnhnaaGreat
