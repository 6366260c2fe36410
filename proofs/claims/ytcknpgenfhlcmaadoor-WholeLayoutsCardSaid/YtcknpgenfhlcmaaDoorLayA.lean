import Derived.Test.YtcknpgenfhlcmaaDoorProg
import Derived.WalkKit
import Derived.WalkSpells
import Derived.WalkLawsBesides
import Derived.Deep.QuietTactic
import Derived.BigQuiet
import Derived.Lib.Hide
import Derived.Handy
namespace Go.Proofs.YtcknpgenfhlcmaaDoor
open Go.RowKit

/-- Bytes of a value type by its number. -/
def szT (n : Int) : Int := [0, 4, 8, 4, 8, 0, 1, 2].getD n.toNat 0
def wdT (n : Int) : Int := [0, 32, 64, 32, 64, 64, 8, 16].getD n.toNat 0

theorem ix_bytes (n : Int) (h0 : 0 ≤ n) (h7 : n ≤ 7) : ∀ w : World, (Instr.index 120 (.agg #[.int .i64 0, .int .i64 4, .int .i64 8, .int .i64 4, .int .i64 8, .int .i64 0, .int .i64 1, .int .i64 2]) (.int .i64 n)).run Tryd.prog w = .ok (.int .i64 (szT n)) w := by
  intro w
  have e0 : ∀ w : World, (Instr.index 120 (.agg #[.int .i64 0, .int .i64 4, .int .i64 8, .int .i64 4, .int .i64 8, .int .i64 0, .int .i64 1, .int .i64 2]) (.int .i64 0)).run Tryd.prog w = .ok (.int .i64 0) w := fun _ => by kernel_rfl
  have e1 : ∀ w : World, (Instr.index 120 (.agg #[.int .i64 0, .int .i64 4, .int .i64 8, .int .i64 4, .int .i64 8, .int .i64 0, .int .i64 1, .int .i64 2]) (.int .i64 1)).run Tryd.prog w = .ok (.int .i64 4) w := fun _ => by kernel_rfl
  have e2 : ∀ w : World, (Instr.index 120 (.agg #[.int .i64 0, .int .i64 4, .int .i64 8, .int .i64 4, .int .i64 8, .int .i64 0, .int .i64 1, .int .i64 2]) (.int .i64 2)).run Tryd.prog w = .ok (.int .i64 8) w := fun _ => by kernel_rfl
  have e3 : ∀ w : World, (Instr.index 120 (.agg #[.int .i64 0, .int .i64 4, .int .i64 8, .int .i64 4, .int .i64 8, .int .i64 0, .int .i64 1, .int .i64 2]) (.int .i64 3)).run Tryd.prog w = .ok (.int .i64 4) w := fun _ => by kernel_rfl
  have e4 : ∀ w : World, (Instr.index 120 (.agg #[.int .i64 0, .int .i64 4, .int .i64 8, .int .i64 4, .int .i64 8, .int .i64 0, .int .i64 1, .int .i64 2]) (.int .i64 4)).run Tryd.prog w = .ok (.int .i64 8) w := fun _ => by kernel_rfl
  have e5 : ∀ w : World, (Instr.index 120 (.agg #[.int .i64 0, .int .i64 4, .int .i64 8, .int .i64 4, .int .i64 8, .int .i64 0, .int .i64 1, .int .i64 2]) (.int .i64 5)).run Tryd.prog w = .ok (.int .i64 0) w := fun _ => by kernel_rfl
  have e6 : ∀ w : World, (Instr.index 120 (.agg #[.int .i64 0, .int .i64 4, .int .i64 8, .int .i64 4, .int .i64 8, .int .i64 0, .int .i64 1, .int .i64 2]) (.int .i64 6)).run Tryd.prog w = .ok (.int .i64 1) w := fun _ => by kernel_rfl
  have e7 : ∀ w : World, (Instr.index 120 (.agg #[.int .i64 0, .int .i64 4, .int .i64 8, .int .i64 4, .int .i64 8, .int .i64 0, .int .i64 1, .int .i64 2]) (.int .i64 7)).run Tryd.prog w = .ok (.int .i64 2) w := fun _ => by kernel_rfl
  have : n = 0 ∨ n = 1 ∨ n = 2 ∨ n = 3 ∨ n = 4 ∨ n = 5 ∨ n = 6 ∨ n = 7 := by omega
  rcases this with rfl | rfl | rfl | rfl | rfl | rfl | rfl | rfl
  · exact e0 w
  · exact e1 w
  · exact e2 w
  · exact e3 w
  · exact e4 w
  · exact e5 w
  · exact e6 w
  · exact e7 w
theorem ix_bits (n : Int) (h0 : 0 ≤ n) (h7 : n ≤ 7) : ∀ w : World, (Instr.index 120 (.agg #[.int .i64 0, .int .i64 32, .int .i64 64, .int .i64 32, .int .i64 64, .int .i64 64, .int .i64 8, .int .i64 16]) (.int .i64 n)).run Tryd.prog w = .ok (.int .i64 (wdT n)) w := by
  intro w
  have e0 : ∀ w : World, (Instr.index 120 (.agg #[.int .i64 0, .int .i64 32, .int .i64 64, .int .i64 32, .int .i64 64, .int .i64 64, .int .i64 8, .int .i64 16]) (.int .i64 0)).run Tryd.prog w = .ok (.int .i64 0) w := fun _ => by kernel_rfl
  have e1 : ∀ w : World, (Instr.index 120 (.agg #[.int .i64 0, .int .i64 32, .int .i64 64, .int .i64 32, .int .i64 64, .int .i64 64, .int .i64 8, .int .i64 16]) (.int .i64 1)).run Tryd.prog w = .ok (.int .i64 32) w := fun _ => by kernel_rfl
  have e2 : ∀ w : World, (Instr.index 120 (.agg #[.int .i64 0, .int .i64 32, .int .i64 64, .int .i64 32, .int .i64 64, .int .i64 64, .int .i64 8, .int .i64 16]) (.int .i64 2)).run Tryd.prog w = .ok (.int .i64 64) w := fun _ => by kernel_rfl
  have e3 : ∀ w : World, (Instr.index 120 (.agg #[.int .i64 0, .int .i64 32, .int .i64 64, .int .i64 32, .int .i64 64, .int .i64 64, .int .i64 8, .int .i64 16]) (.int .i64 3)).run Tryd.prog w = .ok (.int .i64 32) w := fun _ => by kernel_rfl
  have e4 : ∀ w : World, (Instr.index 120 (.agg #[.int .i64 0, .int .i64 32, .int .i64 64, .int .i64 32, .int .i64 64, .int .i64 64, .int .i64 8, .int .i64 16]) (.int .i64 4)).run Tryd.prog w = .ok (.int .i64 64) w := fun _ => by kernel_rfl
  have e5 : ∀ w : World, (Instr.index 120 (.agg #[.int .i64 0, .int .i64 32, .int .i64 64, .int .i64 32, .int .i64 64, .int .i64 64, .int .i64 8, .int .i64 16]) (.int .i64 5)).run Tryd.prog w = .ok (.int .i64 64) w := fun _ => by kernel_rfl
  have e6 : ∀ w : World, (Instr.index 120 (.agg #[.int .i64 0, .int .i64 32, .int .i64 64, .int .i64 32, .int .i64 64, .int .i64 64, .int .i64 8, .int .i64 16]) (.int .i64 6)).run Tryd.prog w = .ok (.int .i64 8) w := fun _ => by kernel_rfl
  have e7 : ∀ w : World, (Instr.index 120 (.agg #[.int .i64 0, .int .i64 32, .int .i64 64, .int .i64 32, .int .i64 64, .int .i64 64, .int .i64 8, .int .i64 16]) (.int .i64 7)).run Tryd.prog w = .ok (.int .i64 16) w := fun _ => by kernel_rfl
  have : n = 0 ∨ n = 1 ∨ n = 2 ∨ n = 3 ∨ n = 4 ∨ n = 5 ∨ n = 6 ∨ n = 7 := by omega
  rcases this with rfl | rfl | rfl | rfl | rfl | rfl | rfl | rfl
  · exact e0 w
  · exact e1 w
  · exact e2 w
  · exact e3 w
  · exact e4 w
  · exact e5 w
  · exact e6 w
  · exact e7 w
def kindT (n : Int) : Int := [1, 2, 3, 4, 0, 0, 6, 7].getD n.toNat 0
theorem ix_kind (n : Int) (h0 : 0 ≤ n) (h7 : n ≤ 7) : ∀ w : World, (Instr.index 120 (.agg #[.int .i64 1, .int .i64 2, .int .i64 3, .int .i64 4, .int .i64 0, .int .i64 0, .int .i64 6, .int .i64 7]) (.int .i64 n)).run Tryd.prog w = .ok (.int .i64 (kindT n)) w := by
  intro w
  have e0 : ∀ w : World, (Instr.index 120 (.agg #[.int .i64 1, .int .i64 2, .int .i64 3, .int .i64 4, .int .i64 0, .int .i64 0, .int .i64 6, .int .i64 7]) (.int .i64 0)).run Tryd.prog w = .ok (.int .i64 1) w := fun _ => by kernel_rfl
  have e1 : ∀ w : World, (Instr.index 120 (.agg #[.int .i64 1, .int .i64 2, .int .i64 3, .int .i64 4, .int .i64 0, .int .i64 0, .int .i64 6, .int .i64 7]) (.int .i64 1)).run Tryd.prog w = .ok (.int .i64 2) w := fun _ => by kernel_rfl
  have e2 : ∀ w : World, (Instr.index 120 (.agg #[.int .i64 1, .int .i64 2, .int .i64 3, .int .i64 4, .int .i64 0, .int .i64 0, .int .i64 6, .int .i64 7]) (.int .i64 2)).run Tryd.prog w = .ok (.int .i64 3) w := fun _ => by kernel_rfl
  have e3 : ∀ w : World, (Instr.index 120 (.agg #[.int .i64 1, .int .i64 2, .int .i64 3, .int .i64 4, .int .i64 0, .int .i64 0, .int .i64 6, .int .i64 7]) (.int .i64 3)).run Tryd.prog w = .ok (.int .i64 4) w := fun _ => by kernel_rfl
  have e4 : ∀ w : World, (Instr.index 120 (.agg #[.int .i64 1, .int .i64 2, .int .i64 3, .int .i64 4, .int .i64 0, .int .i64 0, .int .i64 6, .int .i64 7]) (.int .i64 4)).run Tryd.prog w = .ok (.int .i64 0) w := fun _ => by kernel_rfl
  have e5 : ∀ w : World, (Instr.index 120 (.agg #[.int .i64 1, .int .i64 2, .int .i64 3, .int .i64 4, .int .i64 0, .int .i64 0, .int .i64 6, .int .i64 7]) (.int .i64 5)).run Tryd.prog w = .ok (.int .i64 0) w := fun _ => by kernel_rfl
  have e6 : ∀ w : World, (Instr.index 120 (.agg #[.int .i64 1, .int .i64 2, .int .i64 3, .int .i64 4, .int .i64 0, .int .i64 0, .int .i64 6, .int .i64 7]) (.int .i64 6)).run Tryd.prog w = .ok (.int .i64 6) w := fun _ => by kernel_rfl
  have e7 : ∀ w : World, (Instr.index 120 (.agg #[.int .i64 1, .int .i64 2, .int .i64 3, .int .i64 4, .int .i64 0, .int .i64 0, .int .i64 6, .int .i64 7]) (.int .i64 7)).run Tryd.prog w = .ok (.int .i64 7) w := fun _ => by kernel_rfl
  have : n = 0 ∨ n = 1 ∨ n = 2 ∨ n = 3 ∨ n = 4 ∨ n = 5 ∨ n = 6 ∨ n = 7 := by omega
  rcases this with rfl | rfl | rfl | rfl | rfl | rfl | rfl | rfl
  · exact e0 w
  · exact e1 w
  · exact e2 w
  · exact e3 w
  · exact e4 w
  · exact e5 w
  · exact e6 w
  · exact e7 w

set_option maxRecDepth 100000 in
set_option maxHeartbeats 400000 in
theorem bytes_any (n h : Int) (b : Bool) (w : World) (h0 : 0 ≤ n) (h7 : n ≤ 7) :
    Calls Tryd.prog 93 #[.agg #[.int .i64 n, .bool b, .int .i64 h]] w fun e w' => e = .returned (.int .i64 (szT n)) ∧ w' = w.alloc (.cells #[.int .i64 n, .bool b, .int .i64 h] 38) := by
  have hix := ix_bytes n h0 h7
  go_enter Tryd.func93, Tryd.ntmps93
  go_wp2
  go_ret
  exact ⟨rfl, rfl⟩

set_option maxRecDepth 100000 in
set_option maxHeartbeats 400000 in
theorem bitsOf_any (n h : Int) (b : Bool) (w : World) (h0 : 0 ≤ n) (h7 : n ≤ 7) :
    Calls Tryd.prog 10 #[.agg #[.int .i64 n, .bool b, .int .i64 h]] w fun e w' => e = .returned (.int .i64 (wdT n)) ∧ w' = w.alloc (.cells #[.int .i64 n, .bool b, .int .i64 h] 38) := by
  have hix := ix_bits n h0 h7
  go_enter Tryd.func10, Tryd.ntmps10
  go_wp2
  go_ret
  exact ⟨rfl, rfl⟩

theorem szT_wdT (n : Int) (h1 : 1 ≤ n) (h7 : n ≤ 7) (h5 : n ≠ 5) : 8 * szT n = wdT n ∧ 0 ≤ szT n ∧ szT n ≤ 8 := by
  have : n = 1 ∨ n = 2 ∨ n = 3 ∨ n = 4 ∨ n = 6 ∨ n = 7 := by omega
  rcases this with rfl | rfl | rfl | rfl | rfl | rfl <;> decide

set_option maxRecDepth 100000 in
set_option maxHeartbeats 400000 in
theorem width_any (n h : Int) (b : Bool) (w : World) (h1 : 1 ≤ n) (h7 : n ≤ 7) :
    Calls Tryd.prog 61 #[.agg #[.int .i64 n, .bool b, .int .i64 h]] w fun e w' => e = .returned (.int .i64 (wdT n)) ∧ Below w.heap.size w w' := by
  by_cases h5 : n = 5
  · subst h5
    go_enter Tryd.func61, Tryd.ntmps61
    go_wp2
    go_ret
    exact ⟨rfl, by go_grown⟩
  · have h5' : ((n == 5) = false) := by simpa using h5
    obtain ⟨hs, hs0, hs8⟩ := szT_wdT n h1 h7 h5
    have hs' := Lib.hid hs
    clear hs h5
    go_enter Tryd.func61, Tryd.ntmps61
    go_wp2_with (go_at_call 93; refine (bytes_any _ _ _ _ (by omega) (by omega)).mono ?_; rintro e w' ⟨rfl, rfl⟩)
    go_ret
    exact ⟨by rw [← hs'.out]; rfl, by go_grown⟩

def unT (n : Int) : Int := if 5 < n then 1 else n
set_option maxRecDepth 100000 in
set_option maxHeartbeats 400000 in
theorem unpack_any (n h : Int) (b : Bool) (w : World) (h1 : 1 ≤ n) (h7 : n ≤ 7) :
    Calls Tryd.prog 62 #[.agg #[.int .i64 n, .bool b, .int .i64 h]] w fun e w' => ∃ b' h', e = .returned (.agg #[.int .i64 (unT n), .bool b', .int .i64 h']) ∧ w' = (w.alloc (.cells #[.int .i64 n, .bool b, .int .i64 h] 38)).alloc (.cells #[.int .i64 (unT n), .bool b', .int .i64 h'] 38) := by
  by_cases h5 : 5 < n
  · have : n = 6 ∨ n = 7 := by omega
    rcases this with rfl | rfl
    all_goals
      go_enter Tryd.func62, Tryd.ntmps62
      go_wp2
      exact bodyPost_ret (v := .agg #[.int .i64 1, .bool false, .int .i64 0]) (by simp [results, Tryd.results62, go_sem]) rfl ⟨_, _, rfl, rfl⟩
  · have e6 : (n == 6) = false := by simp; omega
    have e7 : (n == 7) = false := by simp; omega
    have e5 : unT n = n := if_neg h5
    have e5' := Lib.hid e5
    clear h5 e5
    go_enter Tryd.func62, Tryd.ntmps62
    go_wp2
    exact bodyPost_ret (v := .agg #[.int .i64 n, .bool b, .int .i64 h]) (by simp [results, Tryd.results62, go_sem]) rfl ⟨_, _, by rw [e5'.out], by rw [e5'.out]⟩

end Go.Proofs.YtcknpgenfhlcmaaDoor
