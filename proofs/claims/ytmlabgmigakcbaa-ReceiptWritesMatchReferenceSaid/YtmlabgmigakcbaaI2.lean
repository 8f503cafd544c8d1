/- The stable sort at fewer than 20 deliveries. -/
import Derived.Test.YtmlabgmigakcbaaI1
namespace Go.Proofs.Ytmlabgmigakcbaa
open Go.RowKit

theorem insAt_all {α : Type} (lt : α → α → Bool) (l : List α) (n : Nat) (h : l.length = n) : insAt lt l 0 n = sortP lt l := by
  subst h
  simp [insAt]
set_option maxHeartbeats 1000000 in
theorem stable_small (K : Nat) (caps : Array Value) (cv : Evt → Evt → Int) (eg : ∀ args w, (callFunc K args).run Try.prog w = .ok (.enter K args) w) (hcmp : CmpC K caps cv)
    (base g n c : Nat) (l : List Evt) (w : World) (hr : RowS evtCells 7 base 59 g n c w l) (hn : n < 20) :
    Calls Try.prog 84 #[.slice (some ⟨g, 0, none⟩) n c, .int .i64 (n : Int), .func (.func K) #[] caps] w
      fun e w' => e = .returned (.tuple #[]) ∧ RowS evtCells 7 base 59 g n c w' (sortP (ltOf cv) l) ∧ w.grownBy w' (some g) := by
  have hi := insSort_any K caps cv eg hcmp base g n c 0 n l w hr (Nat.zero_le _) (Nat.le_refl _) (by omega)
  rw [insAt_all _ _ _ hr.1] at hi
  have HI := Lib.hid hi
  have hn2 : ¬ (20 : Int) ≤ (n : Int) := by omega
  clear hi hr hcmp
  go_enter Try.func84, Try.ntmps84
  go_wp2
  go_loopw [7, 8] (fun x y wr => x = .int .i64 0 ∧ y = .int .i64 20 ∧ wr = w) (fun _ _ _ => 0)
  case atStart => exact ⟨rfl, rfl, rfl⟩
  case round =>
    obtain ⟨rfl, rfl, rfl⟩ := hrel
    go_wp2_with fail
    refine HI.out.mono ?_
    rintro e w2 ⟨rfl, h1, h2⟩
    have H1 := Lib.hid h1
    have H2 := Lib.hid h2
    clear h1 h2
    go_wp2
    go_loopw [6] (fun x wr => x = .int .i64 20 ∧ wr = w2) (fun _ _ => 0)
    case atStart => exact ⟨rfl, rfl⟩
    case round =>
      obtain ⟨rfl, rfl⟩ := hrel
      go_wp2
      go_end0
      exact ⟨rfl, H1.out, H2.out⟩
theorem sort_small (K : Nat) (caps : Array Value) (cv : Evt → Evt → Int) (eg : ∀ args w, (callFunc K args).run Try.prog w = .ok (.enter K args) w) (hcmp : CmpC K caps cv)
    (base g n c : Nat) (l : List Evt) (w : World) (hr : RowS evtCells 7 base 59 g n c w l) (hn : n < 20) :
    Calls Try.prog 54 #[.slice (some ⟨g, 0, none⟩) n c, .func (.func K) #[] caps] w
      fun e w' => e = .returned (.tuple #[]) ∧ RowS evtCells 7 base 59 g n c w' (sortP (ltOf cv) l) ∧ w.grownBy w' (some g) := by
  have HI := Lib.hid (stable_small K caps cv eg hcmp base g n c l w hr hn)
  clear hr hcmp
  go_enter Try.func54, Try.ntmps54
  go_wp2_with fail
  refine HI.out.mono ?_
  rintro e w2 ⟨rfl, h1, h2⟩
  go_wp2
  go_end0
  exact ⟨rfl, h1, h2⟩

theorem ins_nil (K : Nat) (caps : Array Value) (w : World) : Calls Try.prog 94 #[.slice none 0 0, .int .i64 0, .int .i64 0, .func (.func K) #[] caps] w fun e w' => e = .returned (.tuple #[]) ∧ w = w' := by
  go_enter Try.func94, Try.ntmps94
  go_wp2
  go_loopw [8] (fun i wr => i = .int .i64 1 ∧ wr = w) (fun _ _ => 0)
  case atStart => exact ⟨rfl, rfl⟩
  case round =>
    obtain ⟨rfl, rfl⟩ := hrel
    go_wp2
    go_end0
    exact ⟨rfl, rfl⟩
theorem stable_nil (K : Nat) (caps : Array Value) (w : World) : Calls Try.prog 84 #[.slice none 0 0, .int .i64 0, .func (.func K) #[] caps] w fun e w' => e = .returned (.tuple #[]) ∧ w = w' := by
  go_enter Try.func84, Try.ntmps84
  go_wp2
  go_loopw [7, 8] (fun x y wr => x = .int .i64 0 ∧ y = .int .i64 20 ∧ wr = w) (fun _ _ _ => 0)
  case atStart => exact ⟨rfl, rfl, rfl⟩
  case round =>
    obtain ⟨rfl, rfl, rfl⟩ := hrel
    go_wp2_with (go_at_call 94; refine (ins_nil K caps _).mono ?_; rintro e w' ⟨rfl, rfl⟩)
    go_loopw [6] (fun x wi => x = .int .i64 20 ∧ wi = wr) (fun _ _ => 0)
    case atStart => exact ⟨rfl, rfl⟩
    case round =>
      obtain ⟨rfl, rfl⟩ := hrel
      go_wp2
      go_end0
      exact ⟨rfl, rfl⟩
theorem sort_nil (K : Nat) (caps : Array Value) (w : World) : Calls Try.prog 54 #[.slice none 0 0, .func (.func K) #[] caps] w fun e w' => e = .returned (.tuple #[]) ∧ w = w' := by
  go_enter Try.func54, Try.ntmps54
  go_wp2_with (go_at_call 84; refine (stable_nil K caps _).mono ?_; rintro e w' ⟨rfl, rfl⟩)
  go_end0
  exact ⟨rfl, rfl⟩

end Go.Proofs.Ytmlabgmigakcbaa
