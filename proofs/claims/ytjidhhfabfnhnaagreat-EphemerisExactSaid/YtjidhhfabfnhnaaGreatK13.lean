/- isValid, Orbit. -/
import Derived.Test.YtjidhhfabfnhnaaGreatK05
import Derived.Test.YtjidhhfabfnhnaaGreatK04
import Derived.Test.YtjidhhfabfnhnaaGreatK09
import Derived.Test.YtjidhhfabfnhnaaGreatK12
import Derived.ArgAppend
import Derived.Lib.Hide
import Derived.Shelf.Abstract
namespace Go.Proofs.YtjidhhfabfnhnaaGreat
open Go.RowKit
theorem take_succ_eq {α : Type} {xs ys : List α} {k : Nat} (h : xs.take k = ys.take k) (hx : k < xs.length) (hy : k < ys.length) (he : xs[k] = ys[k]) : xs.take (k + 1) = ys.take (k + 1):=by
 rw [List.take_succ_eq_append_getElem hx,List.take_succ_eq_append_getElem hy,h,he]
theorem ne_of_get {α : Type} {xs ys : List α} {k : Nat} (hx : k < xs.length) (hy : k < ys.length) (he : ¬ xs[k] = ys[k]) : ¬ xs = ys:=by
 rintro rfl
 exact he rfl
theorem stn_size : (Tryz.prog.info? 71).map (·.size) = some 6:=by kernel_rfl
theorem neq_spl (a b : Spl) (w : World) : (binOp .neq 32 (.agg #[.int .i64 a.fr,.int .i64 a.tt]) (.agg #[.int .i64 b.fr,.int .i64 b.tt])).run Tryz.prog w = .ok (.bool (!decide (a = b))) w:=by
 have u3:=Tryz.underlying3
 have hS : Tryz.prog.underlying 32 = some (.struct (Tryz.prog.fieldsOf 32)):=by kernel_rfl
 have hp : Tryz.prog.stoodInHeld 32 = false:=by kernel_rfl
 have he : decide (a = b) = (a.fr == b.fr && (a.tt == b.tt)):=by
  obtain ⟨a1,a2⟩:=a
  obtain ⟨b1,b2⟩:=b
  rw [Bool.eq_iff_iff]
  simp
 rw [he,run_neq_struct,show (10000 : Nat) = 9999 + 1 from rfl,run_equalIn_agg w 9999 32 _ _ hS hp]
 simp only [Program.fieldsOf,Tryz.underlying32]
 go_simp
 by_cases h0 : a.fr = b.fr <;> by_cases h1 : a.tt = b.tt <;> simp [h0,h1]
theorem eqIn_spl (a b c d : Int) (w : World) : (Op.equalIn 9999 32 (.agg #[.int .i64 a,.int .i64 b]) (.agg #[.int .i64 c,.int .i64 d])).run Tryz.prog w = .ok (a == c && b == d) w:=by
 have u3:=Tryz.underlying3
 have hS : Tryz.prog.underlying 32 = some (.struct (Tryz.prog.fieldsOf 32)):=by kernel_rfl
 have hp : Tryz.prog.stoodInHeld 32 = false:=by kernel_rfl
 rw [show (9999 : Nat) = 9998 + 1 from rfl,run_equalIn_agg w 9998 32 _ _ hS hp]
 clear hS hp
 simp only [Program.fieldsOf,Tryz.underlying32]
 go_simp
 by_cases h0 : a = c <;> by_cases h1 : b = d <;> simp [h0,h1]
theorem neq_pas (a b : Pas) (w : World) : (binOp .neq 75 (.agg #[.int .i64 a.sat,.int .i64 a.station,.int .i64 a.sure.fr,.int .i64 a.sure.tt,.int .i64 a.can.fr,.int .i64 a.can.tt]) (.agg #[.int .i64 b.sat,.int .i64 b.station,.int .i64 b.sure.fr,.int .i64 b.sure.tt,.int .i64 b.can.fr,.int .i64 b.can.tt])).run Tryz.prog w = .ok (.bool (!decide (a = b))) w:=by
 have u3:=Tryz.underlying3
 have hS : Tryz.prog.underlying 75 = some (.struct (Tryz.prog.fieldsOf 75)):=by kernel_rfl
 have hp : Tryz.prog.stoodInHeld 75 = false:=by kernel_rfl
 rw [run_neq_struct,show (10000 : Nat) = 9999 + 1 from rfl,run_equalIn_agg w 9999 75 _ _ hS hp]
 have e2:=eqIn_spl
 clear hS hp
 simp only [Program.fieldsOf,Tryz.underlying75]
 go_simp
 obtain ⟨a1,a2,⟨a3,a4⟩,⟨a5,a6⟩⟩:=a
 obtain ⟨b1,b2,⟨b3,b4⟩,⟨b5,b6⟩⟩:=b
 by_cases h0 : a1 = b1 <;> by_cases h1 : a2 = b2 <;> by_cases h2 : a3 = b3 <;> by_cases h3 : a4 = b4 <;> by_cases h4 : a5 = b5 <;> by_cases h5 : a6 = b6 <;> simp [h0,h1,h2,h3,h4,h5]
set_option maxHeartbeats 1000000 in
theorem samePas_any (A1 A2 : Option Addr) (n1 n2 c1 c2 : Nat) (xs ys : List Pas) (w : World) (h1 : RA pasCells 6 w w.heap.size A1 n1 c1 xs) (h2 : RA pasCells 6 w w.heap.size A2 n2 c2 ys) :
  Calls Tryz.prog 16 #[.slice A1 n1 c1,.slice A2 n2 c2] w fun e w' => e = .returned (.bool (decide (xs = ys))) ∧ Below w.heap.size w w':=by
 have hn1 : n1 ≤ 9223372036854775807:=h1.le
 have hn2 : n2 ≤ 9223372036854775807:=h2.le
 have L1 : Hid (xs.length = n1):=h1.len
 have L2 : Hid (ys.length = n2):=h2.len
 have H1:=Lib.hid h1
 have H2:=Lib.hid h2
 clear h1 h2
 by_cases hne : n1 = n2
 ·subst hne
  have hd : ((n1 : Int) != (n1 : Int)) = false:=by simp
  go_enter Tryz.func16,Tryz.ntmps16
  go_wp2
  go_loopw [5] (fun i wr => ∃ k : Nat,k ≤ n1 ∧ i = .int .i64 k ∧ Hid (xs.take k = ys.take k) ∧ Below w.heap.size w wr) (fun i _ => n1 - (intOf i).toNat)
  case atStart => exact ⟨0,Nat.zero_le _,rfl,rfl,Below.refl _ _⟩
  case round =>
   obtain ⟨k,hk,rfl,H,hB⟩:=hrel
   by_cases hlt : k < n1
   ·obtain ⟨b,o,hz,hA,hb,hc⟩:=(H1.out.below hB).at_ pas_len hlt
    obtain ⟨b',o',hz',hA',hb',hc'⟩:=(H2.out.below hB).at_ pas_len hlt
    subst hA hA'
    have hstep:=take_succ_eq (k:=k) H.out hz hz'
    have hstop:=ne_of_get (k:=k) hz hz'
    generalize xs[k] = x at hc hstep hstop
    generalize ys[k] = y at hc' hstep hstop
    have c0 : wr.cell? ⟨b,o + k * 6,none⟩ = some (.int .i64 x.sat):=hc 0 (by omega)
    have c1 : wr.cell? ⟨b,o + k * 6 + 1,none⟩ = some (.int .i64 x.station):=hc 1 (by omega)
    have c2 : wr.cell? ⟨b,o + k * 6 + 2,none⟩ = some (.int .i64 x.sure.fr):=hc 2 (by omega)
    have c3 : wr.cell? ⟨b,o + k * 6 + 3,none⟩ = some (.int .i64 x.sure.tt):=hc 3 (by omega)
    have c4 : wr.cell? ⟨b,o + k * 6 + 4,none⟩ = some (.int .i64 x.can.fr):=hc 4 (by omega)
    have c5 : wr.cell? ⟨b,o + k * 6 + 5,none⟩ = some (.int .i64 x.can.tt):=hc 5 (by omega)
    have d0 : wr.cell? ⟨b',o' + k * 6,none⟩ = some (.int .i64 y.sat):=hc' 0 (by omega)
    have d1 : wr.cell? ⟨b',o' + k * 6 + 1,none⟩ = some (.int .i64 y.station):=hc' 1 (by omega)
    have d2 : wr.cell? ⟨b',o' + k * 6 + 2,none⟩ = some (.int .i64 y.sure.fr):=hc' 2 (by omega)
    have d3 : wr.cell? ⟨b',o' + k * 6 + 3,none⟩ = some (.int .i64 y.sure.tt):=hc' 3 (by omega)
    have d4 : wr.cell? ⟨b',o' + k * 6 + 4,none⟩ = some (.int .i64 y.can.fr):=hc' 4 (by omega)
    have d5 : wr.cell? ⟨b',o' + k * 6 + 5,none⟩ = some (.int .i64 y.can.tt):=hc' 5 (by omega)
    clear hc hc'
    by_cases hxy : x = y
    ·have HS:=Lib.hid (hstep hxy)
     clear hstep hstop
     subst hxy
     have he : (!decide (x = x)) = false:=by simp
     have hnq:=neq_pas
     go_wp2
     go_quiet (fail)
     go_wp2
     go_roundw
     case rel => exact ⟨k + 1,by omega,by go_num,HS.out,(by repeat (first | exact Below.refl _ _ | assumption | refine Below.drew ?_ | refine below_drewN ?_ _ | refine bl_alloc ?_ _ | refine Below.setCell ?_ (by first | (simp; done) | omega | (simp; omega)) _ | refine bl_then ?_ (by assumption)))⟩
     case measure => simp [intOf]; omega
    ·have he : (!decide (x = y)) = true:=by simp [hxy]
     have HX:=Lib.hid (hstop hxy)
     clear hxy hstep hstop
     have hnq:=neq_pas
     go_wp2
     go_quiet (fail)
     go_wp2
     go_ret
     exact ⟨by rw [decide_eq_false HX.out]; rfl,(by repeat (first | exact Below.refl _ _ | assumption | refine Below.drew ?_ | refine below_drewN ?_ _ | refine bl_alloc ?_ _ | refine Below.setCell ?_ (by first | (simp; done) | omega | (simp; omega)) _ | refine bl_then ?_ (by assumption)))⟩
   ·go_wp2
    go_ret
    refine ⟨?_,(by repeat (first | exact Below.refl _ _ | assumption | refine Below.drew ?_ | refine below_drewN ?_ _ | refine bl_alloc ?_ _ | refine Below.setCell ?_ (by first | (simp; done) | omega | (simp; omega)) _ | refine bl_then ?_ (by assumption)))⟩
    have hxy : xs = ys:=by
     have:=H.out
     rwa [List.take_of_length_le (by rw [L1.out]; omega),List.take_of_length_le (by rw [L2.out]; omega)] at this
    rw [decide_eq_true hxy]
    rfl
 ·have hd : ((n1 : Int) != (n2 : Int)) = true:=by simp; omega
  have hxy : ¬ xs = ys:=by
   rintro rfl
   exact hne (L1.out.symm.trans L2.out)
  rw [decide_eq_false hxy]
  clear hxy
  go_enter Tryz.func16,Tryz.ntmps16
  go_wp2
  go_ret
  exact ⟨rfl,Below.refl _ _⟩
end Go.Proofs.YtjidhhfabfnhnaaGreat
namespace Go.Proofs.YtjidhhfabfnhnaaGreat
open Go.RowKit
theorem RA.one {α : Type} {cells : α → List Value} {s : Nat} {w : World} {g : Nat} {t : TypeId} {x : α} (hs : (cells x).length = s) (J : Blk w g t (cells x).toArray) : RA cells s w w.heap.size (some ⟨g,0,none⟩) 1 1 [x]:=by
 refine ⟨⟨by simp [hs],fun _ => ⟨g,0,rfl,J.lt,fun j u hu => ?_⟩⟩,rfl,Nat.le_refl _,by unfold maxLen; omega,by omega⟩
 rw [Nat.zero_add,J.cell,← hu]
 simp
theorem RA.two {α : Type} {cells : α → List Value} {s : Nat} {w : World} {g : Nat} {t : TypeId} {x y : α} (hx : (cells x).length = s) (hy : (cells y).length = s) (J : Blk w g t (cells x ++ cells y).toArray) : RA cells s w w.heap.size (some ⟨g,0,none⟩) 2 2 [x,y]:=by
 refine ⟨⟨by simp [hx,hy]; omega,fun _ => ⟨g,0,rfl,J.lt,fun j u hu => ?_⟩⟩,rfl,Nat.le_refl _,by unfold maxLen; omega,by omega⟩
 rw [Nat.zero_add,J.cell,← hu]
 simp
theorem RA.of_own {α : Type} {cells : α → List Value} {s : Nat} {w : World} {base : Nat} {e : TypeId} {A : Option Addr} {n c : Nat} {l : List α} (h : w.ownsRow base e s (.slice A n c) n (l.flatMap cells)) (hl : l.length = n) (hn : n ≤ 9223372036854775807) : RA cells s w w.heap.size A n c l:=by
 obtain ⟨A',c',hv,h1,h2⟩:=own_slice h
 injection hv with _ _ hv
 subst hv
 exact ⟨Reads.of_own h,hl,h1,h2,hn⟩
def inS (s : Spl) (t : Int) : Bool:=decide (s.fr ≤ t) && decide (t < s.tt)
def exSat (sl : Int) : St:=⟨1,0,⟨96,0,4000,20000,0,0,sl⟩,0,1,1,0,0,0,0,0,0,1,0,5⟩
def exStn : Stn:=⟨2,⟨0,12⟩,0,1,0⟩
end Go.Proofs.YtjidhhfabfnhnaaGreat
namespace Go.Proofs.YtjidhhfabfnhnaaGreat
open Go.RowKit
theorem run_clearM {P : Program} (w : World) (t e ty : TypeId) (z : Value) (ht : P.underlying t = some (.slice e)) (hv : ∀ w,(zeroValue e).run P w = .ok z w) (m : Nat) (hm : 0 < m) (h1 : ∀ u ∈ (Builtin.zeroCells z.cells m).toList,u.oneCell' = true) (g o c : Nat) (cur : Array Value) (et : TypeId)
  (hg : w.heap[g]? = some (.cells cur et (0,0))) (hfit : o + (Builtin.zeroCells z.cells m).toList.length ≤ cur.size) :
  (Builtin.clear_ #[t] ty #[.slice (some ⟨g,o,none⟩) m c]).run P w = .ok (.tuple #[]) (w.setRow g (cur.toList.take o ++ (Builtin.zeroCells z.cells m).toList ++ cur.toList.drop (o + (Builtin.zeroCells z.cells m).toList.length)).toArray):=by
 have hst:=run_storeCells_at P g o et (Builtin.zeroCells z.cells m).toList 0 cur w hg (by simpa using hfit) h1
 simp only [Nat.add_zero] at hst
 obtain ⟨m,rfl⟩ : ∃ k,m = k + 1:=⟨m - 1,by omega⟩
 simp [Builtin.clear_,run_underlying ht,hv,hst]
theorem wpList_clearK {P : Program} (w : World) {ops : Array Oper} {rest : List Oper} {o : Oper} {a : Act} {Q : Exit → Act → World → Prop} (hgd : o.guard = none) (d : Operand) (t : TypeId)
  (ho : o.op = .call { callee:=.builtin .clear,args:=#[d],argTypes:=#[t] }) (v : Value) (hd : a.eval d = v) {v' : Value} {w' : World}
  (hr : (Builtin.clear_ #[t] o.type #[v]).run P w = .ok v' w') (h : wpList P ops Q rest (a.put o.dst v') w') : wpList P ops Q (o :: rest) a w:=by
 refine wpList_plain hgd fun K hK => ?_
 unfold Oper.wp execOp
 simp only [ho,resolve,invoke,builtin,Sem.run_bind,Sem.run_pure,Result.andThen_ok,List.map_toArray,List.map_cons,List.map_nil,hd,hr]
 exact hK _ _ h
theorem zero_len (z : Array Value) (m : Nat) : (Builtin.zeroCells z m).toList.length = m * z.size:=by simp [Builtin.zeroCells]
theorem zero_ones (z : Array Value) (hz : 0 < z.size) (m : Nat) (h : ∀ u ∈ z.toList,u.oneCell' = true) : ∀ u ∈ (Builtin.zeroCells z m).toList,u.oneCell' = true:=by
 intro u hu
 simp only [Builtin.zeroCells,Array.toList_map,List.mem_map] at hu
 obtain ⟨i,_,rfl⟩:=hu
 have hlt : i % z.size < z.size:=Nat.mod_lt _ hz
 rw [getElem!_pos z _ hlt]
 exact h _ (by simp)
theorem flat_take_ {α : Type} {cells : α → List Value} {s : Nat} (hs : ∀ x,(cells x).length = s) (l : List α) (k : Nat) : (l.take k).flatMap cells = (l.flatMap cells).take (k * s):=by
 induction l generalizing k with
 | nil => simp
 | cons x r ih =>
  cases k with
  | zero => simp
  | succ k =>
   rw [List.take_succ_cons,List.flatMap_cons,List.flatMap_cons,ih,List.take_append,hs,Nat.succ_mul,List.take_of_length_le (l:=cells x) (i:=k * s + s) (by rw [hs]; omega),Nat.add_sub_cancel]
theorem row_cut {α : Type} {cells : α → List Value} {s base : Nat} {e : TypeId} {g n c : Nat} {w : World} {l : List α} (hs : ∀ x,(cells x).length = s) (h : RowS cells s base e g n c w l) {k : Nat} (hk : k ≤ n) (Z : List Value) (hZ : Z.length = (n - k) * s) :
  ∃ cur : Array Value,Blk w g e cur ∧ k * s + Z.length ≤ cur.size ∧ RowS cells s base e g k c (w.setRow g (cur.toList.take (k * s) ++ Z ++ cur.toList.drop (k * s + Z.length)).toArray) (l.take k):=by
 obtain ⟨hl,ho⟩:=h
 rcases ho.2 with ⟨hv,_⟩ | ⟨g',cap,cur,hv,hbg,hgg,h1,h2,h3,h4⟩
 ·cases hv
 ·injection hv with e1 e2 e3
  injection e1 with e1
  injection e1 with e1
  subst e1 e3
  have hfl:=flat_len_ hs l
  have hkn : k * s + (n - k) * s = n * s:=by rw [← Nat.add_mul]; congr 1; omega
  have hnc : n * s ≤ c * s:=Nat.mul_le_mul_right s h1
  refine ⟨cur,hgg,by omega,by rw [List.length_take,hl]; omega,?_,.inr ⟨g,c,_,rfl,hbg,setRow_heap _ _ _ _ _ _ hgg,by omega,h2,?_,?_⟩⟩
  ·rw [flat_len_ hs,List.length_take,hl,Nat.min_eq_left hk]
  ·rw [List.size_toArray,List.length_append,List.length_append,List.length_take,List.length_drop,Array.length_toList]
   omega
  ·rw [flat_take_ hs,← h4,List.take_take,Nat.min_eq_left (by omega)]
   rw [List.append_assoc,List.take_append_of_le_length (by rw [List.length_take,Array.length_toList]; omega),List.take_take,Nat.min_self]
theorem idxA_neg {α : Type} (p : α → Bool) (l : List α) (h : idxA p l 0 < 0) : l.filter (fun x => !p x) = l:=by
 rw [List.filter_eq_self]
 intro x hx
 have h1:=idxA_any p l 0 (Int.le_refl _)
 have h2 : ¬ l.any p = true:=by rw [← h1]; omega
 cases hp : p x with
 | false => rfl
 | true => exact absurd (List.any_eq_true.2 ⟨x,hx,hp⟩) h2
theorem idxA_pos {α : Type} (p : α → Bool) : ∀ (l : List α) (k : Int),0 ≤ k → 0 ≤ idxA p l k → ∃ (i : Nat) (hi : i < l.length),idxA p l k = k + i ∧ p l[i] = true ∧ (l.take i).filter (fun x => !p x) = l.take i:=by
 intro l
 induction l with
 | nil => intro k hk h; simp [idxA] at h
 | cons x r ih =>
  intro k hk h
  rw [idxA] at h ⊢
  by_cases hx : p x = true
  ·rw [if_pos hx] at h ⊢
   exact ⟨0,by simp,by simp,hx,by simp⟩
  ·rw [if_neg hx] at h ⊢
   obtain ⟨i,hi,h1,h2,h3⟩:=ih (k + 1) (by omega) h
   exact ⟨i + 1,by simpa using hi,by rw [h1]; omega,by simpa using h2,by simp [List.take_succ_cons,hx,h3]⟩
theorem idxA_ge {α : Type} (p : α → Bool) : ∀ (l : List α) (k : Int),0 ≤ k → idxA p l k = -1 ∨ 0 ≤ idxA p l k:=by
 intro l
 induction l with
 | nil => intro k _; exact .inl rfl
 | cons x r ih =>
  intro k hk
  rw [idxA]
  split
  ·exact .inr hk
  ·exact ih (k + 1) (by omega)
structure DI {α : Type} (p : α → Bool) (l l' : List α) (i j : Nat) : Prop where
 len : l'.length = l.length
 ij : i < j
 jn : j ≤ l.length
 tk : l'.take i = (l.take j).filter (fun x => !p x)
 dr : l'.drop j = l.drop j
theorem DI.start {α : Type} {p : α → Bool} {l : List α} {i : Nat} (hi : i < l.length) (h : p l[i] = true) (hf : (l.take i).filter (fun x => !p x) = l.take i) : DI p l l i (i + 1) :=
 ⟨rfl,by omega,by omega,by rw [List.take_succ_eq_append_getElem hi,List.filter_append,hf]; simp [h],rfl⟩
theorem DI.at {α : Type} {p : α → Bool} {l l' : List α} {i j : Nat} (d : DI p l l' i j) (hj : j < l.length) : ∃ h : j < l'.length,l'[j] = l[j]:=by
 have h : j < l'.length:=by rw [d.len]; exact hj
 have e:=congrArg (fun z : List α => z[0]?) d.dr
 simp only [List.getElem?_drop,Nat.add_zero] at e
 rw [List.getElem?_eq_getElem h,List.getElem?_eq_getElem hj] at e
 exact ⟨h,Option.some.inj e⟩
theorem DI.skip {α : Type} {p : α → Bool} {l l' : List α} {i j : Nat} (d : DI p l l' i j) (hj : j < l.length) (h : p l[j] = true) : DI p l l' i (j + 1) :=
 ⟨d.len,by have:=d.ij; omega,hj,by rw [d.tk,List.take_succ_eq_append_getElem hj,List.filter_append]; simp [h],by rw [← List.drop_drop,d.dr,List.drop_drop]⟩
theorem DI.keep {α : Type} {p : α → Bool} {l l' : List α} {i j : Nat} (d : DI p l l' i j) (hj : j < l.length) (h : p l[j] = false) : DI p l (l'.set i l[j]) (i + 1) (j + 1):=by
 have hij:=d.ij
 have hil : i < l'.length:=by rw [d.len]; omega
 refine ⟨by rw [List.length_set,d.len],by omega,hj,?_,?_⟩
 ·rw [List.take_succ_eq_append_getElem (by rw [List.length_set]; exact hil),List.getElem_set_self,List.take_set_of_le (Nat.le_refl _),d.tk,List.take_succ_eq_append_getElem hj,List.filter_append]
  simp [h]
 ·rw [List.drop_set_of_lt (by omega),← List.drop_drop,d.dr,List.drop_drop]
theorem DI.fin {α : Type} {p : α → Bool} {l l' : List α} {i : Nat} (d : DI p l l' i l.length) : l'.take i = l.filter (fun x => !p x) ∧ i < l.length ∧ i = (l.filter (fun x => !p x)).length:=by
 have h:=d.tk
 rw [List.take_of_length_le (Nat.le_refl _)] at h
 refine ⟨h,d.ij,?_⟩
 rw [← h,List.length_take,d.len]
 have:=d.ij
 omega
theorem RowS.ra {α : Type} {cells : α → List Value} {s base : Nat} {e : TypeId} {g n c : Nat} {w : World} {l : List α} (h : RowS cells s base e g n c w l) (hn : n ≤ 1000000) : RA cells s w w.heap.size (some ⟨g,0,none⟩) n c l:=by
 obtain ⟨h1,h2⟩:=h.le
 refine ⟨⟨?_,fun _ => ⟨g,0,rfl,h.lt,fun j v hv => ?_⟩⟩,h.1,h1,h2,by omega⟩
 ·exact h.2.1
 ·rw [Nat.zero_add]
  have:=h.2.cells (g:=g) rfl j v hv
  rwa [Addr.add_lit,Nat.zero_add] at this
theorem info_Upd : (Tryz.prog.info? 66).map (fun i => (i.zero,i.size,i.bytes)) = some (some (Value.agg #[.int .i64 0,.int .i64 0,.int .i64 0,.int .i64 0,.int .i64 0,.int .i64 0,.int .i64 0,.int .i64 0,.int .i64 0,.int .i64 0]),10,80):=by kernel_rfl
theorem ones_Upd (l : List Upd) : ∀ u ∈ l.flatMap updCells,u.oneCell' = true:=by
 intro u hu
 obtain ⟨x,_,hx⟩:=List.mem_flatMap.1 hu
 simp [updCells] at hx
 rcases hx with hx | hx | hx | hx | hx | hx | hx | hx | hx | hx <;> subst hx <;> rfl
set_option maxHeartbeats 1000000 in
theorem clone_Upd (l : List Upd) (A : Option Addr) (n c : Nat) (w : World) (h : RA updCells 10 w w.heap.size A n c l) (hn : n ≤ 2000) :
  Calls Tryz.prog 110 #[.slice A n c] w fun e w' => (∃ v,e = .returned v ∧ w'.ownsRow w.heap.size 66 10 v l.length (l.flatMap updCells)) ∧ Ext w w':=by
 have hr:=h.rd
 have hlen:=h.len
 have heq:=fun (w : World) (a : Option Addr) (n c n' c' : Nat) => Lib.run_eql_slice_nil (P:=Tryz.prog) w 30 66 a n c n' c' Tryz.underlying30
 cases A with
 | none =>
  have h0 : n = 0:=by
   rcases Nat.eq_zero_or_pos n with h0 | h0
   ·exact h0
   ·obtain ⟨_,_,h,_⟩:=hr.2 h0
    cases h
  subst h0
  have hz : l = []:=List.eq_nil_of_length_eq_zero hlen
  subst hz
  clear hr h hlen
  go_enter Tryz.func110,Tryz.ntmps110
  go_wp2
  go_ret
  exact ⟨⟨_,rfl,World.ownsRow_nil _ _ _ _⟩,(by repeat (first | exact Below.refl _ _ | assumption | refine Below.drew ?_ | refine below_drewN ?_ _ | refine bl_alloc ?_ _ | refine Below.setCell ?_ (by first | (simp; done) | omega | (simp; omega)) _ | refine bl_then ?_ (by assumption)))⟩
 | some ad =>
  obtain ⟨i0,hi,hz0,hz1,hz2⟩:=info_parts info_Upd
  have H1:=Lib.hid (ones_Upd l)
  have HLEN:=Lib.hid hlen
  generalize hxs : l.flatMap updCells = xs at hr H1
  have HXS:=Lib.hid hxs
  have HR:=Lib.hid (hr.alloc (Nat.le_refl _) (.cells #[] 66))
  clear hr h hlen hxs
  go_enter Tryz.func110,Tryz.ntmps110
  go_wp2_with (at_builtin; refine wpList_append_any _ rfl _ _ 30 rfl w.heap.size 66 i0 (Value.agg #[.int .i64 0,.int .i64 0,.int .i64 0,.int .i64 0,.int .i64 0,.int .i64 0,.int .i64 0,.int .i64 0,.int .i64 0,.int .i64 0]) 10 80 Tryz.underlying30 hi hz0 hz1 hz2 rfl (by decide) _ 0 [] rfl (World.ownsRow_made w #[] 0 (Nat.le_refl _) (by unfold maxLen; omega) rfl) w.heap.size (some ad) n c xs rfl HR.out H1.out (by unfold maxLen; omega) (by omega) (by simp) ?_)
  intro v' w' hown hg hat
  go_wp2
  go_ret
  refine ⟨⟨_,rfl,by rw [HLEN.out]; simpa using hown⟩,?_⟩
  exact (bl_alloc (Below.refl _ _) _).grown hg (by simp) (fun k hk => by simp [Value.ownBlock] at hk; omega)
set_option maxRecDepth 100000 in
set_option maxHeartbeats 2000000 in
theorem delete_Upd (p : Upd → Bool) (K : Nat) (caps : Array Value) (eg : ∀ args w,(callFunc K args).run Tryz.prog w = .ok (.enter K args) w) (base g n c : Nat) (l : List Upd) (w : World) (h : RowS updCells 10 base 66 g n c w l) (hn : n ≤ 2000)
  (hp : ∀ (x : Upd) (W : World),w.grownBy W (some g) → Calls Tryz.prog K (#[.agg (updCells x).toArray] ++ caps) W fun e w' => e = .returned (.bool (p x)) ∧ Ext W w') :
  Calls Tryz.prog 109 #[.slice (some ⟨g,0,none⟩) n c,.func (.func K) #[] caps] w fun e w' => e = .returned (.slice (some ⟨g,0,none⟩) (l.filter (fun x => !p x)).length c) ∧ RowS updCells 10 base 66 g (l.filter (fun x => !p x)).length c w' (l.filter (fun x => !p x)) ∧ w.grownBy w' (some g):=by
 have HI:=Lib.hid (index_Upd p K caps eg l (some ⟨g,0,none⟩) n c w (h.ra (by omega)) (fun x W hx => hp x W (grown_ext hx)))
 have hln:=h.1
 have hcap:=h.le
 have HR:=Lib.hid h
 have HP:=Lib.hid hp
 clear hp h
 rcases idxA_ge p l 0 (Int.le_refl _) with hneg | hpos
 ·have hf:=idxA_neg p l (by omega)
  rw [hf,hln]
  rw [hneg] at HI
  clear hf hneg
  go_enter Tryz.func109,Tryz.ntmps109
  go_wp2_with fail
  refine HI.out.mono ?_
  rintro e w1 ⟨rfl,hx⟩
  have HX:=Lib.hid hx
  clear hx
  go_wp2
  go_ret
  exact ⟨rfl,HR.out.ext HX.out,grown_ext HX.out⟩
 ·obtain ⟨i0,hi0,hi1,hi2,hi3⟩:=idxA_pos p l 0 (Int.le_refl _) hpos
  rw [Int.zero_add] at hi1
  rw [hi1] at HI
  have HD:=Lib.hid (DI.start hi0 hi2 hi3)
  have hin : i0 < n:=by omega
  clear hi1 hi2 hi3 hpos hi0
  obtain ⟨M,hM⟩ : ∃ M,M = l.filter (fun x => !p x):=⟨_,rfl⟩
  rw [← hM]
  have HM:=Lib.hid hM
  have HLN:=Lib.hid hln
  clear hM hln
  have hcap1:=hcap.1
  have hcap2 : c ≤ 9223372036854775807:=hcap.2
  have hiz : ((i0 : Int) == -1) = false:=by first | (simp; done) | (simp; omega)
  go_enter Tryz.func109,Tryz.ntmps109
  go_wp2_with fail
  refine HI.out.mono ?_
  rintro e w1 ⟨rfl,hx⟩
  have hR1 : RowS updCells 10 base 66 g n c w1 l:=HR.out.ext hx
  have HR1:=Lib.hid hR1
  have HG1 : Hid (w.grownBy w1 (some g)):=Lib.hid (grown_ext hx)
  clear hx hR1 HI
  go_wp2
  go_loopw [5,6] (fun x y wr => ∃ (i j : Nat) (l' : List Upd),x = .int .i64 i ∧ y = .int .i64 j ∧ j ≤ n ∧ Hid (DI p l l' i j) ∧ Hid (RowS updCells 10 base 66 g n c wr l') ∧ Hid (w.grownBy wr (some g))) (fun _ y _ => n - (intOf y).toNat)
  case atStart => exact ⟨i0,i0 + 1,l,rfl,by first | rfl | simp,by omega,HD,HR1,HG1⟩
  case round =>
   clear HD HR1 HG1
   obtain ⟨i,j,l',rfl,rfl,hjn,HD,HR1,HG1⟩:=hrel
   have hij:=HD.out.ij
   by_cases hjl : j < n
   ·have hjz : (j : Int) < (n : Int):=by omega
    have hjll : j < l.length:=by rw [HLN.out]; exact hjl
    obtain ⟨hz,hat⟩:=HD.out.at hjll
    have hc:=HR1.out.range upd_len hz
    have hsk:=fun h => HD.out.skip hjll h
    have hkp:=fun h => HD.out.keep hjll h
    rw [hat] at hc
    generalize l[j] = x at hc hsk hkp
    have hv:=fun W hW => HP.out x W hW
    have hst:=HR1.out.store (cells:=updCells) upd_len (k:=i) (by rw [HD.out.len]; omega) x
    have hth:=HR1.out.there upd_len (k:=i) (by rw [HD.out.len]; omega)
    have hx1 : ∀ v ∈ updCells x,v.oneCell' = true:=fun v hv => ones_Upd [x] v (by simpa using hv)
    obtain ⟨X,hX⟩ : ∃ X,(updCells x).toArray = X:=⟨_,rfl⟩
    rw [hX] at hv
    have hXs : X.size = 10:=by rw [← hX]; rfl
    have hX1 : X.all (·.oneCell') = true:=by rw [← hX]; exact all_oneCell_toArray hx1
    obtain ⟨q,hq⟩ : ∃ q,q = p x:=⟨_,rfl⟩
    rw [← hq] at hv
    have HXX:=Lib.hid hX
    have HXS:=Lib.hid hXs
    have HX1:=Lib.hid hX1
    have HX1L:=Lib.hid hx1
    have HCC:=Lib.hid hc
    have HV:=Lib.hid hv
    have HSK:=Lib.hid hsk
    have HKP:=Lib.hid hkp
    have HQ:=Lib.hid hq
    have KX : Blk (wr.alloc (.cells X 66)) wr.heap.size 66 X:=Blk.new _ _ _
    have hxa : Ext wr (wr.alloc (.cells X 66)):=bl_alloc (Below.refl _ _) _
    clear hc hv hsk hkp hX hXs hX1 hx1 hq hat hz hst hth
    go_upto_region 8 with (first | (refine wpList_load_st rfl _ _ rfl g (j * 10) rfl X (updCells x) HXX.out _ HCC.out Tryz.underlying66 rfl upd_size ?_) | (refine wpList_store_new rfl 66 _ _ rfl _ X rfl rfl (by rw [HXS.out]; exact upd_size) (by rw [HXS.out]; rfl) HX1.out ?_))
    generalize wr.heap.size = g7 at KX ⊢
    generalize wr.alloc (.cells X 66) = W2 at KX hxa ⊢
    have HR2:=Lib.hid (HR1.out.ext hxa)
    have HG2:=Lib.hid (gb_trans HG1.out (grown_ext hxa))
    have HV2:=Lib.hid (HV.out W2 HG2.out)
    have HK:=Lib.hid KX
    clear KX hxa HR1 HG1 HV
    go_wp2_with (refine wpList_load_st rfl _ _ rfl g7 0 rfl X (updCells x) HXX.out _ (Blk.range HK.out (updCells x) (by rw [← HXX.out])) Tryz.underlying66 rfl upd_size ?_)
    refine HV2.out.mono ?_
    rintro e W3 ⟨rfl,hy⟩
    have HR3:=Lib.hid (HR2.out.ext hy)
    have HG3:=Lib.hid (gb_trans HG2.out (grown_ext hy))
    have HK3:=Lib.hid (HK.out.ext hy)
    clear hy HV2 HR2 HG2 HK
    cases q
    ·have HD4:=Lib.hid (HKP.out HQ.out.symm)
     have hil : i < l'.length:=by rw [HD.out.len]; omega
     obtain ⟨hst1,hst2⟩:=HR3.out.store (cells:=updCells) upd_len (k:=i) hil x
     have hth:=HR3.out.there upd_len (k:=i) hil
     have HST1:=Lib.hid hst1
     have HST2:=Lib.hid (gb_trans HG3.out hst2)
     have HTH:=Lib.hid hth
     have hiz2 : (i : Int) < (n : Int):=by omega
     have hiz3 : ¬ (i : Int) < 0:=by omega
     have hw1 : IntKind.i64.wrap ((i : Int) + 1) = (i : Int) + 1:=IntWalk.i64_in _ (by omega)
     clear hst1 hst2 hth HSK HKP
     go_upto_region 10 with (first | (refine wpList_load_st rfl _ _ rfl g7 0 rfl X (updCells x) HXX.out _ (Blk.range HK3.out (updCells x) (by rw [← HXX.out])) Tryz.underlying66 rfl upd_size ?_) | (refine wpList_store_st rfl 66 _ _ rfl g (i * 10) X (updCells x) HXX.out rfl rfl HTH.out upd_size HX1L.out ?_))
     generalize W3.setCells g (i * 10) (updCells x) = W4 at HST1 HST2 ⊢
     go_wp2
     go_roundw
     case rel => exact ⟨i + 1,j + 1,_,by go_num,by go_num,by omega,HD4,HST1,HST2⟩
     case measure => simp [intOf]; omega
    ·have HD4:=Lib.hid (HSK.out HQ.out.symm)
     clear HSK HKP
     go_wp2
     go_roundw
     case rel => exact ⟨i,j + 1,l',rfl,by go_num,by omega,HD4,HR3,HG3⟩
     case measure => simp [intOf]; omega
   ·have hjn2 : j = l.length:=by have:=HLN.out; omega
    have hjz : ¬ (j : Int) < (n : Int):=by omega
    obtain ⟨f1,f2,f3⟩:=(hjn2 ▸ HD.out : DI p l l' i l.length).fin
    rw [← HM.out] at f1 f3
    have hin2 : i < n:=by have:=HLN.out; omega
    obtain ⟨i9,hi9,hz0,hz1,hz2⟩:=info_parts info_Upd
    have hzl:=zero_len (Value.agg #[.int .i64 0,.int .i64 0,.int .i64 0,.int .i64 0,.int .i64 0,.int .i64 0,.int .i64 0,.int .i64 0,.int .i64 0,.int .i64 0]).cells (n - i)
    have hzs : (Value.agg #[.int .i64 0,.int .i64 0,.int .i64 0,.int .i64 0,.int .i64 0,.int .i64 0,.int .i64 0,.int .i64 0,.int .i64 0,.int .i64 0]).cells.size = 10:=rfl
    rw [hzs] at hzl
    obtain ⟨cur,K,hfit,hrow⟩:=row_cut (cells:=updCells) upd_len HR1.out (k:=i) (by omega) _ hzl
    have hzv : ∀ w,(zeroValue 66).run Tryz.prog w = .ok (Value.agg #[.int .i64 0,.int .i64 0,.int .i64 0,.int .i64 0,.int .i64 0,.int .i64 0,.int .i64 0,.int .i64 0,.int .i64 0,.int .i64 0]) w:=fun _ => by kernel_rfl
    have hcl:=run_clearM (P:=Tryz.prog) wr 30 66 0 (Value.agg #[.int .i64 0,.int .i64 0,.int .i64 0,.int .i64 0,.int .i64 0,.int .i64 0,.int .i64 0,.int .i64 0,.int .i64 0,.int .i64 0]) Tryz.underlying30 hzv (n - i) (by omega) (zero_ones _ (by decide) _ (by decide)) g (i * 10) (c - i) cur 66 K hfit
    rw [f1] at hrow
    have HC:=Lib.hid hcl
    have HROW:=Lib.hid hrow
    have HGX : Hid (w.grownBy (wr.setRow g (cur.toList.take (i * 10) ++ (Builtin.zeroCells (Value.agg #[.int .i64 0,.int .i64 0,.int .i64 0,.int .i64 0,.int .i64 0,.int .i64 0,.int .i64 0,.int .i64 0,.int .i64 0,.int .i64 0]).cells (n - i)).toList ++ cur.toList.drop (i * 10 + (Builtin.zeroCells (Value.agg #[.int .i64 0,.int .i64 0,.int .i64 0,.int .i64 0,.int .i64 0,.int .i64 0,.int .i64 0,.int .i64 0,.int .i64 0,.int .i64 0]).cells (n - i)).toList.length)).toArray) (some g)):=Lib.hid (gb_trans HG1.out ⟨rfl,rfl,rfl,by rw [setRow_size]; exact Nat.le_refl _,fun k _ hne => setRow_other _ _ _ _ (fun e => hne (by rw [e]))⟩)
    generalize (wr.setRow g (cur.toList.take (i * 10) ++ (Builtin.zeroCells (Value.agg #[.int .i64 0,.int .i64 0,.int .i64 0,.int .i64 0,.int .i64 0,.int .i64 0,.int .i64 0,.int .i64 0,.int .i64 0,.int .i64 0]).cells (n - i)).toList ++ cur.toList.drop (i * 10 + (Builtin.zeroCells (Value.agg #[.int .i64 0,.int .i64 0,.int .i64 0,.int .i64 0,.int .i64 0,.int .i64 0,.int .i64 0,.int .i64 0,.int .i64 0,.int .i64 0]).cells (n - i)).toList.length)).toArray) = W5 at HC HROW HGX
    have HF3:=Lib.hid f3
    have hic : i ≤ c:=by omega
    have hiz1 : (0 : Int) ≤ (i : Int):=by omega
    have hiz2 : (i : Int) ≤ (n : Int):=by omega
    clear hcl hrow hzl hfit K hzv hzs f1 f2 f3 hz0 hz1 hz2 hi9 hjn2
    have hci : ¬ c = i:=by omega
    have hcs : (c == i) = false:=by simpa using hci
    go_upto_region 11 with (fail)
    go_upto_region 12 with (refine wpList_clearK _ rfl (.tmp 38) 30 rfl (.slice (some ⟨g,i * 10,none⟩) (n - i) (c - i)) rfl HC.out ?_)
    go_wp2
    go_ret
    exact ⟨by rw [← HF3.out]; rfl,by rw [← HF3.out]; exact HROW.out,HGX.out⟩
theorem info_Pas : (Tryz.prog.info? 75).map (fun i => (i.zero,i.size,i.bytes)) = some (some (Value.agg #[.int .i64 0,.int .i64 0,.int .i64 0,.int .i64 0,.int .i64 0,.int .i64 0]),6,48):=by kernel_rfl
theorem ones_Pas (l : List Pas) : ∀ u ∈ l.flatMap pasCells,u.oneCell' = true:=by
 intro u hu
 obtain ⟨x,_,hx⟩:=List.mem_flatMap.1 hu
 simp [pasCells] at hx
 rcases hx with hx | hx | hx | hx | hx | hx <;> subst hx <;> rfl
set_option maxHeartbeats 1000000 in
theorem clone_Pas (l : List Pas) (A : Option Addr) (n c : Nat) (w : World) (h : RA pasCells 6 w w.heap.size A n c l) (hn : n ≤ 2000) :
  Calls Tryz.prog 137 #[.slice A n c] w fun e w' => (∃ v,e = .returned v ∧ w'.ownsRow w.heap.size 75 6 v l.length (l.flatMap pasCells)) ∧ Ext w w':=by
 have hr:=h.rd
 have hlen:=h.len
 have heq:=fun (w : World) (a : Option Addr) (n c n' c' : Nat) => Lib.run_eql_slice_nil (P:=Tryz.prog) w 36 75 a n c n' c' Tryz.underlying36
 cases A with
 | none =>
  have h0 : n = 0:=by
   rcases Nat.eq_zero_or_pos n with h0 | h0
   ·exact h0
   ·obtain ⟨_,_,h,_⟩:=hr.2 h0
    cases h
  subst h0
  have hz : l = []:=List.eq_nil_of_length_eq_zero hlen
  subst hz
  clear hr h hlen
  go_enter Tryz.func137,Tryz.ntmps137
  go_wp2
  go_ret
  exact ⟨⟨_,rfl,World.ownsRow_nil _ _ _ _⟩,(by repeat (first | exact Below.refl _ _ | assumption | refine Below.drew ?_ | refine below_drewN ?_ _ | refine bl_alloc ?_ _ | refine Below.setCell ?_ (by first | (simp; done) | omega | (simp; omega)) _ | refine bl_then ?_ (by assumption)))⟩
 | some ad =>
  obtain ⟨i0,hi,hz0,hz1,hz2⟩:=info_parts info_Pas
  have H1:=Lib.hid (ones_Pas l)
  have HLEN:=Lib.hid hlen
  generalize hxs : l.flatMap pasCells = xs at hr H1
  have HXS:=Lib.hid hxs
  have HR:=Lib.hid (hr.alloc (Nat.le_refl _) (.cells #[] 75))
  clear hr h hlen hxs
  go_enter Tryz.func137,Tryz.ntmps137
  go_wp2_with (at_builtin; refine wpList_append_any _ rfl _ _ 36 rfl w.heap.size 75 i0 (Value.agg #[.int .i64 0,.int .i64 0,.int .i64 0,.int .i64 0,.int .i64 0,.int .i64 0]) 6 48 Tryz.underlying36 hi hz0 hz1 hz2 rfl (by decide) _ 0 [] rfl (World.ownsRow_made w #[] 0 (Nat.le_refl _) (by unfold maxLen; omega) rfl) w.heap.size (some ad) n c xs rfl HR.out H1.out (by unfold maxLen; omega) (by omega) (by simp) ?_)
  intro v' w' hown hg hat
  go_wp2
  go_ret
  refine ⟨⟨_,rfl,by rw [HLEN.out]; simpa using hown⟩,?_⟩
  exact (bl_alloc (Below.refl _ _) _).grown hg (by simp) (fun k hk => by simp [Value.ownBlock] at hk; omega)
set_option maxRecDepth 100000 in
set_option maxHeartbeats 2000000 in
theorem delete_Pas (p : Pas → Bool) (K : Nat) (caps : Array Value) (eg : ∀ args w,(callFunc K args).run Tryz.prog w = .ok (.enter K args) w) (base g n c : Nat) (l : List Pas) (w : World) (h : RowS pasCells 6 base 75 g n c w l) (hn : n ≤ 2000)
  (hp : ∀ (x : Pas) (W : World),w.grownBy W (some g) → Calls Tryz.prog K (#[.agg (pasCells x).toArray] ++ caps) W fun e w' => e = .returned (.bool (p x)) ∧ Ext W w') :
  Calls Tryz.prog 136 #[.slice (some ⟨g,0,none⟩) n c,.func (.func K) #[] caps] w fun e w' => e = .returned (.slice (some ⟨g,0,none⟩) (l.filter (fun x => !p x)).length c) ∧ RowS pasCells 6 base 75 g (l.filter (fun x => !p x)).length c w' (l.filter (fun x => !p x)) ∧ w.grownBy w' (some g):=by
 have HI:=Lib.hid (index_Pas p K caps eg l (some ⟨g,0,none⟩) n c w (h.ra (by omega)) (fun x W hx => hp x W (grown_ext hx)))
 have hln:=h.1
 have hcap:=h.le
 have HR:=Lib.hid h
 have HP:=Lib.hid hp
 clear hp h
 rcases idxA_ge p l 0 (Int.le_refl _) with hneg | hpos
 ·have hf:=idxA_neg p l (by omega)
  rw [hf,hln]
  rw [hneg] at HI
  clear hf hneg
  go_enter Tryz.func136,Tryz.ntmps136
  go_wp2_with fail
  refine HI.out.mono ?_
  rintro e w1 ⟨rfl,hx⟩
  have HX:=Lib.hid hx
  clear hx
  go_wp2
  go_ret
  exact ⟨rfl,HR.out.ext HX.out,grown_ext HX.out⟩
 ·obtain ⟨i0,hi0,hi1,hi2,hi3⟩:=idxA_pos p l 0 (Int.le_refl _) hpos
  rw [Int.zero_add] at hi1
  rw [hi1] at HI
  have HD:=Lib.hid (DI.start hi0 hi2 hi3)
  have hin : i0 < n:=by omega
  clear hi1 hi2 hi3 hpos hi0
  obtain ⟨M,hM⟩ : ∃ M,M = l.filter (fun x => !p x):=⟨_,rfl⟩
  rw [← hM]
  have HM:=Lib.hid hM
  have HLN:=Lib.hid hln
  clear hM hln
  have hcap1:=hcap.1
  have hcap2 : c ≤ 9223372036854775807:=hcap.2
  have hiz : ((i0 : Int) == -1) = false:=by first | (simp; done) | (simp; omega)
  go_enter Tryz.func136,Tryz.ntmps136
  go_wp2_with fail
  refine HI.out.mono ?_
  rintro e w1 ⟨rfl,hx⟩
  have hR1 : RowS pasCells 6 base 75 g n c w1 l:=HR.out.ext hx
  have HR1:=Lib.hid hR1
  have HG1 : Hid (w.grownBy w1 (some g)):=Lib.hid (grown_ext hx)
  clear hx hR1 HI
  go_wp2
  go_loopw [5,6] (fun x y wr => ∃ (i j : Nat) (l' : List Pas),x = .int .i64 i ∧ y = .int .i64 j ∧ j ≤ n ∧ Hid (DI p l l' i j) ∧ Hid (RowS pasCells 6 base 75 g n c wr l') ∧ Hid (w.grownBy wr (some g))) (fun _ y _ => n - (intOf y).toNat)
  case atStart => exact ⟨i0,i0 + 1,l,rfl,by first | rfl | simp,by omega,HD,HR1,HG1⟩
  case round =>
   clear HD HR1 HG1
   obtain ⟨i,j,l',rfl,rfl,hjn,HD,HR1,HG1⟩:=hrel
   have hij:=HD.out.ij
   by_cases hjl : j < n
   ·have hjz : (j : Int) < (n : Int):=by omega
    have hjll : j < l.length:=by rw [HLN.out]; exact hjl
    obtain ⟨hz,hat⟩:=HD.out.at hjll
    have hc:=HR1.out.range pas_len hz
    have hsk:=fun h => HD.out.skip hjll h
    have hkp:=fun h => HD.out.keep hjll h
    rw [hat] at hc
    generalize l[j] = x at hc hsk hkp
    have hv:=fun W hW => HP.out x W hW
    have hst:=HR1.out.store (cells:=pasCells) pas_len (k:=i) (by rw [HD.out.len]; omega) x
    have hth:=HR1.out.there pas_len (k:=i) (by rw [HD.out.len]; omega)
    have hx1 : ∀ v ∈ pasCells x,v.oneCell' = true:=fun v hv => ones_Pas [x] v (by simpa using hv)
    obtain ⟨X,hX⟩ : ∃ X,(pasCells x).toArray = X:=⟨_,rfl⟩
    rw [hX] at hv
    have hXs : X.size = 6:=by rw [← hX]; rfl
    have hX1 : X.all (·.oneCell') = true:=by rw [← hX]; exact all_oneCell_toArray hx1
    obtain ⟨q,hq⟩ : ∃ q,q = p x:=⟨_,rfl⟩
    rw [← hq] at hv
    have HXX:=Lib.hid hX
    have HXS:=Lib.hid hXs
    have HX1:=Lib.hid hX1
    have HX1L:=Lib.hid hx1
    have HCC:=Lib.hid hc
    have HV:=Lib.hid hv
    have HSK:=Lib.hid hsk
    have HKP:=Lib.hid hkp
    have HQ:=Lib.hid hq
    have KX : Blk (wr.alloc (.cells X 75)) wr.heap.size 75 X:=Blk.new _ _ _
    have hxa : Ext wr (wr.alloc (.cells X 75)):=bl_alloc (Below.refl _ _) _
    clear hc hv hsk hkp hX hXs hX1 hx1 hq hat hz hst hth
    go_upto_region 8 with (first | (refine wpList_load_st rfl _ _ rfl g (j * 6) rfl X (pasCells x) HXX.out _ HCC.out Tryz.underlying75 rfl pas_size ?_) | (refine wpList_store_new rfl 75 _ _ rfl _ X rfl rfl (by rw [HXS.out]; exact pas_size) (by rw [HXS.out]; rfl) HX1.out ?_))
    generalize wr.heap.size = g7 at KX ⊢
    generalize wr.alloc (.cells X 75) = W2 at KX hxa ⊢
    have HR2:=Lib.hid (HR1.out.ext hxa)
    have HG2:=Lib.hid (gb_trans HG1.out (grown_ext hxa))
    have HV2:=Lib.hid (HV.out W2 HG2.out)
    have HK:=Lib.hid KX
    clear KX hxa HR1 HG1 HV
    go_wp2_with (refine wpList_load_st rfl _ _ rfl g7 0 rfl X (pasCells x) HXX.out _ (Blk.range HK.out (pasCells x) (by rw [← HXX.out])) Tryz.underlying75 rfl pas_size ?_)
    refine HV2.out.mono ?_
    rintro e W3 ⟨rfl,hy⟩
    have HR3:=Lib.hid (HR2.out.ext hy)
    have HG3:=Lib.hid (gb_trans HG2.out (grown_ext hy))
    have HK3:=Lib.hid (HK.out.ext hy)
    clear hy HV2 HR2 HG2 HK
    cases q
    ·have HD4:=Lib.hid (HKP.out HQ.out.symm)
     have hil : i < l'.length:=by rw [HD.out.len]; omega
     obtain ⟨hst1,hst2⟩:=HR3.out.store (cells:=pasCells) pas_len (k:=i) hil x
     have hth:=HR3.out.there pas_len (k:=i) hil
     have HST1:=Lib.hid hst1
     have HST2:=Lib.hid (gb_trans HG3.out hst2)
     have HTH:=Lib.hid hth
     have hiz2 : (i : Int) < (n : Int):=by omega
     have hiz3 : ¬ (i : Int) < 0:=by omega
     have hw1 : IntKind.i64.wrap ((i : Int) + 1) = (i : Int) + 1:=IntWalk.i64_in _ (by omega)
     clear hst1 hst2 hth HSK HKP
     go_upto_region 10 with (first | (refine wpList_load_st rfl _ _ rfl g7 0 rfl X (pasCells x) HXX.out _ (Blk.range HK3.out (pasCells x) (by rw [← HXX.out])) Tryz.underlying75 rfl pas_size ?_) | (refine wpList_store_st rfl 75 _ _ rfl g (i * 6) X (pasCells x) HXX.out rfl rfl HTH.out pas_size HX1L.out ?_))
     generalize W3.setCells g (i * 6) (pasCells x) = W4 at HST1 HST2 ⊢
     go_wp2
     go_roundw
     case rel => exact ⟨i + 1,j + 1,_,by go_num,by go_num,by omega,HD4,HST1,HST2⟩
     case measure => simp [intOf]; omega
    ·have HD4:=Lib.hid (HSK.out HQ.out.symm)
     clear HSK HKP
     go_wp2
     go_roundw
     case rel => exact ⟨i,j + 1,l',rfl,by go_num,by omega,HD4,HR3,HG3⟩
     case measure => simp [intOf]; omega
   ·have hjn2 : j = l.length:=by have:=HLN.out; omega
    have hjz : ¬ (j : Int) < (n : Int):=by omega
    obtain ⟨f1,f2,f3⟩:=(hjn2 ▸ HD.out : DI p l l' i l.length).fin
    rw [← HM.out] at f1 f3
    have hin2 : i < n:=by have:=HLN.out; omega
    obtain ⟨i9,hi9,hz0,hz1,hz2⟩:=info_parts info_Pas
    have hzl:=zero_len (Value.agg #[.int .i64 0,.int .i64 0,.int .i64 0,.int .i64 0,.int .i64 0,.int .i64 0]).cells (n - i)
    have hzs : (Value.agg #[.int .i64 0,.int .i64 0,.int .i64 0,.int .i64 0,.int .i64 0,.int .i64 0]).cells.size = 6:=rfl
    rw [hzs] at hzl
    obtain ⟨cur,K,hfit,hrow⟩:=row_cut (cells:=pasCells) pas_len HR1.out (k:=i) (by omega) _ hzl
    have hzv : ∀ w,(zeroValue 75).run Tryz.prog w = .ok (Value.agg #[.int .i64 0,.int .i64 0,.int .i64 0,.int .i64 0,.int .i64 0,.int .i64 0]) w:=fun _ => by kernel_rfl
    have hcl:=run_clearM (P:=Tryz.prog) wr 36 75 0 (Value.agg #[.int .i64 0,.int .i64 0,.int .i64 0,.int .i64 0,.int .i64 0,.int .i64 0]) Tryz.underlying36 hzv (n - i) (by omega) (zero_ones _ (by decide) _ (by decide)) g (i * 6) (c - i) cur 75 K hfit
    rw [f1] at hrow
    have HC:=Lib.hid hcl
    have HROW:=Lib.hid hrow
    have HGX : Hid (w.grownBy (wr.setRow g (cur.toList.take (i * 6) ++ (Builtin.zeroCells (Value.agg #[.int .i64 0,.int .i64 0,.int .i64 0,.int .i64 0,.int .i64 0,.int .i64 0]).cells (n - i)).toList ++ cur.toList.drop (i * 6 + (Builtin.zeroCells (Value.agg #[.int .i64 0,.int .i64 0,.int .i64 0,.int .i64 0,.int .i64 0,.int .i64 0]).cells (n - i)).toList.length)).toArray) (some g)):=Lib.hid (gb_trans HG1.out ⟨rfl,rfl,rfl,by rw [setRow_size]; exact Nat.le_refl _,fun k _ hne => setRow_other _ _ _ _ (fun e => hne (by rw [e]))⟩)
    generalize (wr.setRow g (cur.toList.take (i * 6) ++ (Builtin.zeroCells (Value.agg #[.int .i64 0,.int .i64 0,.int .i64 0,.int .i64 0,.int .i64 0,.int .i64 0]).cells (n - i)).toList ++ cur.toList.drop (i * 6 + (Builtin.zeroCells (Value.agg #[.int .i64 0,.int .i64 0,.int .i64 0,.int .i64 0,.int .i64 0,.int .i64 0]).cells (n - i)).toList.length)).toArray) = W5 at HC HROW HGX
    have HF3:=Lib.hid f3
    have hic : i ≤ c:=by omega
    have hiz1 : (0 : Int) ≤ (i : Int):=by omega
    have hiz2 : (i : Int) ≤ (n : Int):=by omega
    clear hcl hrow hzl hfit K hzv hzs f1 f2 f3 hz0 hz1 hz2 hi9 hjn2
    have hci : ¬ c = i:=by omega
    have hcs : (c == i) = false:=by simpa using hci
    go_upto_region 11 with (fail)
    go_upto_region 12 with (refine wpList_clearK _ rfl (.tmp 38) 36 rfl (.slice (some ⟨g,i * 6,none⟩) (n - i) (c - i)) rfl HC.out ?_)
    go_wp2
    go_ret
    exact ⟨by rw [← HF3.out]; rfl,by rw [← HF3.out]; exact HROW.out,HGX.out⟩
end Go.Proofs.YtjidhhfabfnhnaaGreat
namespace Go.Proofs.YtjidhhfabfnhnaaGreat
open Go.RowKit
theorem notown_any (u : Upd) (gs : Nat) (id : Int) (P : Array Value) (w : World) (kp : Blk w gs 53 P) (p0 : P[0]? = some (.int .i64 id)) :
  Calls Tryz.prog 111 #[.agg (updCells u).toArray,.pointer (some ⟨gs,0,none⟩)] w fun e w' => e = .returned (.bool (u.sat != id)) ∧ Ext w w':=by
 obtain ⟨X,hX⟩ : ∃ X,X = (updCells u).toArray:=⟨_,rfl⟩
 have x0 : X[0]? = some (.int .i64 u.sat):=by rw [hX]; rfl
 rw [← hX]
 clear hX
 have hx : Ext w (w.alloc (.cells X 66)):=bl_alloc (Below.refl _ _) _
 have J:=Blk.new w 66 X
 have KU:=kp.ext hx
 have HX:=Lib.hid hx
 clear hx
 go_enter Tryz.func111,Tryz.ntmps111
 go_upto_region 1 with (fail)
 generalize w.alloc _ = W at J KU HX ⊢
 generalize w.heap.size = g at J ⊢
 have u0 : W.cell? ⟨g,0,none⟩ = some (.int .i64 u.sat):=by rw [J.cell]; exact x0
 have u1 : W.cell? ⟨gs,0,none⟩ = some (.int .i64 id):=by rw [KU.cell]; exact p0
 clear p0 x0 J KU
 go_wp2
 go_ret
 exact ⟨rfl,HX.out⟩
theorem own_filter (id : Int) (l : List Upd) : l.filter (fun u => !(u.sat != id)) = ownU id l:=by
 unfold ownU
 congr 1
 funext u
 simp [bne]
theorem delete_nil (K : Nat) (caps : Array Value) (w : World) :
  Calls Tryz.prog 109 #[.slice none 0 0,.func (.func K) #[] caps] w fun e w' => e = .returned (.slice none 0 0) ∧ Ext w w':=by
 have hi : Calls Tryz.prog 150 #[.slice none 0 0,.func (.func K) #[] caps] w fun e w' => e = .returned (.int .i64 (-1)) ∧ Ext w w':=by
  go_enter Tryz.func150,Tryz.ntmps150
  go_wp2
  go_loopw [8] (fun i wr => i = .int .i64 0 ∧ wr = w) (fun _ _ => 0)
  case atStart => exact ⟨rfl,rfl⟩
  case round =>
   obtain ⟨rfl,rfl⟩:=hrel
   go_wp2
   go_ret
   exact ⟨rfl,Ext.refl _⟩
 have HI:=Lib.hid hi
 clear hi
 go_enter Tryz.func109,Tryz.ntmps109
 go_wp2_with fail
 refine HI.out.mono ?_
 rintro e w1 ⟨rfl,hx⟩
 have HX:=Lib.hid hx
 clear hx
 go_wp2
 go_ret
 exact ⟨rfl,HX.out⟩
theorem info_sat2_ : (Tryz.prog.info? 53).map (fun i => (i.zero.map (fun z => z.cells.size),i.size)) = some (some 21,21):=by kernel_rfl
theorem sat_lit (x : St) (X : Array Value) (h : (satCells x).toArray = X) : X.size = 21 ∧ X.all (·.oneCell') = true ∧ X[0]? = some (.int .i64 x.id):=by
 subst h
 exact ⟨rfl,sat_one x,rfl⟩
set_option maxRecDepth 100000 in
set_option maxHeartbeats 2000000 in
theorem isValid_any (x : St) (l : List Upd) (A : Option Addr) (n c : Nat) (w : World) (h : RA updCells 10 w w.heap.size A n c l) (hn : n ≤ 2000) :
  Calls Tryz.prog 52 #[.agg (satCells x).toArray,.slice A n c] w fun e w' => e = .returned (.bool (validS x l)) ∧ Ext w w':=by
 have HCL:=Lib.hid (fun (W : World) (hx : Ext w W) => clone_Upd l A n c W (ra_ext h hx) hn)
 obtain ⟨P,hP⟩ : ∃ P,(satCells x).toArray = P:=⟨_,rfl⟩
 obtain ⟨hPs,hP1,p0⟩:=sat_lit x P hP
 rw [hP]
 have hln:=h.len
 obtain ⟨V,hV⟩ : ∃ V,V = validS x l:=⟨_,rfl⟩
 rw [← hV]
 have HV : Hid (V = validE [x] (ownU x.id l)):=Lib.hid hV
 have HPP:=Lib.hid hP
 have HPS:=Lib.hid hPs
 have hx : Ext w (w.alloc (.cells P 53)):=bl_alloc (Below.refl _ _) _
 have J:=Blk.new w 53 P
 clear hP hPs hP1 h hV
 go_enter Tryz.func52,Tryz.ntmps52
 go_upto_region 1 with (fail)
 generalize w.alloc (.cells P 53) = W1 at J hx ⊢
 generalize w.heap.size = g2 at J ⊢
 go_wp2_with fail
 refine (HCL.out W1 hx).mono ?_
 rintro e W2 ⟨⟨v,rfl,hown⟩,hy⟩
 have HJ1:=Lib.hid J
 have J:=J.ext hy
 have HDEL : Hid (Calls Tryz.prog 109 #[v,.func (.func 111) #[] #[.pointer (some ⟨g2,0,none⟩)]] W2 fun e w' => (∃ A' c',e = .returned (.slice A' (ownU x.id l).length c') ∧ RA updCells 10 w' w'.heap.size A' (ownU x.id l).length c' (ownU x.id l)) ∧ Ext W1 w'):=Lib.hid (by
  rcases hown.2 with ⟨rfl,h0⟩ | ⟨g,cap,cur,rfl,hbg,hgg,r⟩
  ·obtain rfl : l = []:=List.eq_nil_of_length_eq_zero h0
   refine (delete_nil 111 #[.pointer (some ⟨g2,0,none⟩)] W2).mono ?_
   rintro e w' ⟨rfl,hy2⟩
   exact ⟨⟨none,0,rfl,⟨⟨by simp [ownU],fun h => by simp [ownU] at h⟩,rfl,Nat.zero_le _,Nat.zero_le _,by simp [ownU]⟩⟩,Ext.trans hy hy2⟩
  ·have hrow : RowS updCells 10 W1.heap.size 66 g l.length cap W2 l:=⟨rfl,hown⟩
   have hne : g2 ≠ g:=fun e => by have:=J.lt; have h1:=(World.ownsRow.lt hown g rfl).1; subst e; exact absurd hgg (by
    intro hgg2
    have h2 : W2.heap[g2]? = some (.cells P 53 (0,0)):=J
    rw [h2] at hgg2
    injection hgg2 with hgg2
    injection hgg2 with _ ht
    revert ht
    decide)
   refine (delete_Upd (fun u => u.sat != x.id) 111 #[.pointer (some ⟨g2,0,none⟩)] (enters_of Tryz.func111 (by kernel_rfl) rfl) W1.heap.size g l.length cap l W2 hrow (by omega) (fun u W hu => notown_any u g2 x.id P W (J.grown hu (fun e => by injection e with e; exact hne e)) p0)).mono ?_
   rintro e w' ⟨rfl,hr,hg⟩
   rw [own_filter] at hr ⊢
   have hlen : (ownU x.id l).length ≤ l.length:=List.length_filter_le _ _
   exact ⟨⟨_,_,rfl,hr.ra (by omega)⟩,hy.grown hg (Below.size hy) (fun q e => by injection e with e; omega)⟩)
 clear hown hy p0 J HCL
 go_wp2_with fail
 refine HDEL.out.mono ?_
 rintro e W3 ⟨⟨A',c',rfl,hra⟩,hy⟩
 have hx3:=Ext.trans hx hy
 have HRA:=Lib.hid hra
 have HJ:=Lib.hid (HJ1.out.ext hy)
 have HX3:=Lib.hid hx3
 clear hra hy hx3 hx HJ1 HDEL
 have K:=Blk.new W3 53 P
 have hxa : Ext W3 (W3.alloc (.cells P 53)):=bl_alloc (Below.refl _ _) _
 have HV2 : Hid (Calls Tryz.prog 24 #[.slice (some ⟨W3.heap.size,0,none⟩) 1 1,.slice A' (ownU x.id l).length c'] (W3.alloc (.cells P 53)) fun e w' => e = .returned (.bool V) ∧ Ext W3 w'):=Lib.hid (by
  rw [HV.out]
  refine (validE_any [x] (ownU x.id l) (some ⟨W3.heap.size,0,none⟩) A' 1 1 (ownU x.id l).length c' _ (RA.one (sat_len x) (by rw [HPP.out]; exact K)) (ra_ext HRA.out hxa)).mono ?_
  rintro e w' ⟨h1,h2⟩
  exact ⟨h1,Ext.trans hxa h2⟩)
 clear K hxa
 go_wp2_with (first | (refine wpList_load_st rfl _ _ rfl g2 0 rfl P (satCells x) HPP.out _ (Blk.range HJ.out (satCells x) (by rw [← HPP.out])) Tryz.underlying53 rfl sat_size ?_) | (refine wpList_buildOne rfl _ _ _ rfl P rfl Tryz.underlying28 21 info_sat2_ HPS.out (by omega) (by omega) ?_))
 refine HV2.out.mono ?_
 rintro e W4 ⟨rfl,hy⟩
 have HX4:=Lib.hid (Ext.trans HX3.out hy)
 go_wp2
 go_ret
 exact ⟨rfl,HX4.out⟩
theorem wpList_build3 {P : Program} {ops : Array Oper} {rest : List Oper} {o : Oper} {a : Act} {w : World} {Q : Exit → Act → World → Prop} (hg : o.guard = none) (t : TypeId) (x y z : Operand) (ho : o.op = .build t #[(0,x),(1,y),(2,z)]) {vx vy vz : Value} (X : Array Value)
  (hx : a.eval x = vx) (hy : a.eval y = vy) (hz : a.eval z = vz) (hb : P.built t [(0,vx),(1,vy),(2,vz)] = some X) (h : wpList P ops Q rest (a.put o.dst (.agg X)) w) : wpList P ops Q (o :: rest) a w:=by
 have e : (#[(0,x),(1,y),(2,z)].map fun ((i,x) : Nat × Operand) => (i,a.eval x)).toList = [(0,vx),(1,vy),(2,vz)]:=by simp [hx,hy,hz]
 refine wpList_build hg t _ ho (by rw [e,hb]; rfl) ?_
 rw [e,hb]
 exact h
set_option maxRecDepth 100000 in
theorem pth_built (x : St) (A : Option Addr) (n c : Nat) (kn : Int) : Tryz.prog.built 117 [(0,.agg (satCells x).toArray),(1,.slice A n c),(2,.int .i64 kn)] = some (pthCells x A n c kn).toArray:=by
 obtain ⟨id,ow,⟨p,f,lo,hi,no,tu,sl⟩,wi,st,ch,su,idl,sh,se,wa,co,ho,sw,ra⟩:=x
 kernel_rfl
def orbR (o : Option Orb) : Value:=match o with
 | none => .tuple #[.agg #[.int .i64 0,.int .i64 0,.int .i64 0,.int .i64 0,.int .i64 0,.int .i64 0,.int .i64 0],.int .i64 360]
 | some o => .tuple #[.agg (orbCells o).toArray,.int .i64 0]
set_option maxRecDepth 100000 in
set_option maxHeartbeats 2000000 in
theorem orbit_any (x : St) (l : List Upd) (A : Option Addr) (n c : Nat) (t kn : Int) (w : World) (h : RA updCells 10 w w.heap.size A n c l) (hn : n ≤ 2000) :
  Calls Tryz.prog 17 #[.agg (satCells x).toArray,.slice A n c,.int .i64 t,.int .i64 kn] w fun e w' => e = .returned (orbR (orbitE x l t kn)) ∧ Ext w w':=by
 have hval:=fun (W : World) (hx : Ext w W) => isValid_any x l A n c W (ra_ext h hx) hn
 have horb:=fun (W : World) (hx : Ext w W) => orb_any x l A n c kn t W (ra_ext h hx)
 have hbu:=pth_built x A n c kn
 obtain ⟨P,hP⟩ : ∃ P,(satCells x).toArray = P:=⟨_,rfl⟩
 obtain ⟨Z,hZ⟩ : ∃ Z,(pthCells x A n c kn).toArray = Z:=⟨_,rfl⟩
 rw [hP] at hval hbu
 rw [hZ] at horb hbu
 rw [hP]
 obtain ⟨Y,hY⟩ : ∃ Y,(orbCells (orbE x l kn t)).toArray = Y:=⟨_,rfl⟩
 obtain ⟨hYs,hY1⟩:=orb_lit _ Y hY
 rw [hY] at horb
 have hin:=eIn_any t 0 1000000
 obtain ⟨R,hR⟩ : ∃ R,R = orbitE x l t kn:=⟨_,rfl⟩
 rw [← hR]
 unfold orbitE at hR
 generalize inB t 0 1000000 = q1 at hin hR
 generalize validS x l = q2 at hval hR
 have HR:=Lib.hid hR
 have HVAL:=Lib.hid hval
 have HORB:=Lib.hid horb
 have HIN:=Lib.hid hin
 have HBU:=Lib.hid hbu
 have HPP:=Lib.hid hP
 have HYY:=Lib.hid hY
 have HYS:=Lib.hid hYs
 have HY1:=Lib.hid hY1
 have hxa : Ext w ((w.alloc (.cells P 53)).alloc (.cells #[.int .i64 0,.int .i64 0,.int .i64 0,.int .i64 0,.int .i64 0,.int .i64 0,.int .i64 0] 51)):=bl_alloc (bl_alloc (Below.refl _ _) _) _
 have J4:=(Blk.new w 53 P).ext (bl_alloc (Below.refl _ _) (.cells #[.int .i64 0,.int .i64 0,.int .i64 0,.int .i64 0,.int .i64 0,.int .i64 0,.int .i64 0] 51))
 have J8:=Blk.new (w.alloc (.cells P 53)) 51 #[.int .i64 0,.int .i64 0,.int .i64 0,.int .i64 0,.int .i64 0,.int .i64 0,.int .i64 0]
 rw [World.size_alloc] at J8
 have hg8 : w.heap.size ≤ w.heap.size + 1:=by omega
 clear hR hval horb hin hbu hP hZ hY hYs hY1 h
 go_enter Tryz.func17,Tryz.ntmps17
 go_upto_region 1 with (fail)
 generalize (w.alloc (.cells P 53)).alloc (.cells #[.int .i64 0,.int .i64 0,.int .i64 0,.int .i64 0,.int .i64 0,.int .i64 0,.int .i64 0] 51) = W1 at J4 J8 hxa ⊢
 generalize w.heap.size + 1 = g8 at J8 hg8 ⊢
 obtain ⟨g4,hg4⟩ : ∃ g,g = w.heap.size:=⟨_,rfl⟩
 rw [← hg4] at J4 ⊢
 have HG8:=Lib.hid hg8
 clear hg4 hg8
 go_wp2_with fail
 refine (HIN.out _).mono ?_
 rintro e w1 ⟨rfl,rfl⟩
 have HJ4:=Lib.hid J4
 have HJ8:=Lib.hid J8
 clear J4 J8
 cases q1
 ·obtain rfl : R = none:=by rw [HR.out]; simp
  have hxn:=below_setRow hxa (g:=g8) HG8.out #[.int .i64 0,.int .i64 0,.int .i64 0,.int .i64 0,.int .i64 0,.int .i64 0,.int .i64 0]
  have JN:=HJ8.out.row #[.int .i64 0,.int .i64 0,.int .i64 0,.int .i64 0,.int .i64 0,.int .i64 0,.int .i64 0]
  clear hxa
  go_wp2_with (refine wpList_store_row rfl 51 _ _ rfl g8 #[.int .i64 0,.int .i64 0,.int .i64 0,.int .i64 0,.int .i64 0,.int .i64 0,.int .i64 0] rfl rfl 51 _ HJ8.out orb_size rfl (by simp [Value.oneCell']) ?_)
  exact bodyPost_ret (results_row1 Tryz.results17 _ _ g8 _ (.int .i64 360) rfl rfl JN _ Tryz.underlying51 rfl orb_size) rfl ⟨rfl,hxn⟩
 ·go_wp2_with (refine wpList_load_stg rfl _ _ rfl g4 0 rfl P (satCells x) HPP.out _ (Blk.range HJ4.out (satCells x) (by rw [← HPP.out])) Tryz.underlying53 rfl sat_size ?_)
  refine (HVAL.out _ hxa).mono ?_
  rintro e W2 ⟨rfl,hy⟩
  have hx2:=Ext.trans hxa hy
  have HJ4:=Lib.hid (HJ4.out.ext hy)
  have HJ8:=Lib.hid (HJ8.out.ext hy)
  clear hxa hy
  cases q2
  ·obtain rfl : R = none:=by rw [HR.out]; simp
   have hxn:=below_setRow hx2 (g:=g8) HG8.out #[.int .i64 0,.int .i64 0,.int .i64 0,.int .i64 0,.int .i64 0,.int .i64 0,.int .i64 0]
   have JN:=HJ8.out.row #[.int .i64 0,.int .i64 0,.int .i64 0,.int .i64 0,.int .i64 0,.int .i64 0,.int .i64 0]
   clear hx2
   go_wp2_with (refine wpList_store_row rfl 51 _ _ rfl g8 #[.int .i64 0,.int .i64 0,.int .i64 0,.int .i64 0,.int .i64 0,.int .i64 0,.int .i64 0] rfl rfl 51 _ HJ8.out orb_size rfl (by simp [Value.oneCell']) ?_)
   exact bodyPost_ret (results_row1 Tryz.results17 _ _ g8 _ (.int .i64 360) rfl rfl JN _ Tryz.underlying51 rfl orb_size) rfl ⟨rfl,hxn⟩
  ·obtain rfl : R = some (orbE x l kn t):=by rw [HR.out]; simp
   go_wp2_with (first | (refine wpList_load_st rfl _ _ rfl g4 0 rfl P (satCells x) HPP.out _ (Blk.range HJ4.out (satCells x) (by rw [← HPP.out])) Tryz.underlying53 rfl sat_size ?_) | (refine wpList_build3 rfl _ _ _ _ rfl Z rfl rfl rfl HBU.out ?_))
   refine (HORB.out _ hx2).mono ?_
   rintro e W3 ⟨rfl,hy⟩
   have HJ8:=Lib.hid (HJ8.out.ext hy)
   have hxn:=below_setRow (Ext.trans hx2 hy) (g:=g8) HG8.out Y
   have JN:=HJ8.out.row Y
   clear hx2 hy
   go_wp2_with (refine wpList_store_row rfl 51 _ _ rfl g8 Y rfl rfl 51 _ HJ8.out (by rw [HYS.out]; exact orb_size) (by rw [HYS.out]; rfl) HY1.out ?_)
   exact bodyPost_ret (results_row1 Tryz.results17 _ _ g8 Y (.int .i64 0) rfl rfl JN _ Tryz.underlying51 rfl (by rw [HYS.out]; exact orb_size)) rfl ⟨by rw [orbR,HYY.out],hxn⟩
end Go.Proofs.YtjidhhfabfnhnaaGreat
