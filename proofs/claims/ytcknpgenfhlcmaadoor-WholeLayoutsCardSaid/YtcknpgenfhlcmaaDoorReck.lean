import Derived.Test.YtcknpgenfhlcmaaDoorFind
import Derived.Handy
namespace Go.Proofs.YtcknpgenfhlcmaaDoor
open Go.RowKit

set_option maxRecDepth 100000 in
set_option maxHeartbeats 1600000 in
theorem opened_ok (A : Option Addr) (n c : Nat) (i k : Int) (w : World) (h0 : 0 ≤ i) (h1 : i ≤ k) (h2 : k ≤ n) :
    Calls Tryd.prog 97 #[.slice A n c, .int .i64 i, .int .i64 k] w fun e w' => e = .returned (.tuple #[.agg #[.slice A n c, .int .i64 i, .int .i64 k], .int .i64 0]) ∧ w' = w.alloc (.cells #[.slice A n c, .int .i64 i, .int .i64 k] 130) := by
  go_enter Tryd.func97, Tryd.ntmps97
  go_wp2
  exact bodyPost_ret (v := .tuple #[.agg #[.slice A n c, .int .i64 i, .int .i64 k], .int .i64 0]) (by simp [results, Tryd.results97, go_sem]) rfl ⟨rfl, rfl⟩

set_option maxRecDepth 100000 in
set_option maxHeartbeats 1600000 in
theorem opened_bad (A : Option Addr) (n c : Nat) (i k : Int) (w : World) (h : i < 0 ∨ k < i ∨ n < k) :
    Calls Tryd.prog 97 #[.slice A n c, .int .i64 i, .int .i64 k] w fun e w' => e = .returned (.tuple #[.agg #[.slice none 0 0, .int .i64 0, .int .i64 0], .int .i64 1]) ∧ w' = w.alloc (.cells #[.slice none 0 0, .int .i64 0, .int .i64 0] 130) := by
  by_cases a1 : i < 0
  · go_enter Tryd.func97, Tryd.ntmps97
    go_wp2
    exact bodyPost_ret (v := .tuple #[.agg #[.slice none 0 0, .int .i64 0, .int .i64 0], .int .i64 1]) (by simp [results, Tryd.results97, go_sem]) rfl ⟨rfl, rfl⟩
  · by_cases a2 : (n : Int) < k
    · have a1 : 0 ≤ i := by omega
      go_enter Tryd.func97, Tryd.ntmps97
      go_wp2
      exact bodyPost_ret (v := .tuple #[.agg #[.slice none 0 0, .int .i64 0, .int .i64 0], .int .i64 1]) (by simp [results, Tryd.results97, go_sem]) rfl ⟨rfl, rfl⟩
    · have a1 : 0 ≤ i := by omega
      have a3 : k < i := by omega
      have a2 : k ≤ n := by omega
      go_enter Tryd.func97, Tryd.ntmps97
      go_wp2
      exact bodyPost_ret (v := .tuple #[.agg #[.slice none 0 0, .int .i64 0, .int .i64 0], .int .i64 1]) (by simp [results, Tryd.results97, go_sem]) rfl ⟨rfl, rfl⟩

set_option maxRecDepth 100000 in
set_option maxHeartbeats 1600000 in
theorem u32_three (B : Nat) (w : World) (c0 : w.cell? ⟨B, 0, none⟩ = some (.int .u8 229)) (c1 : w.cell? ⟨B, 1, none⟩ = some (.int .u8 142)) (c2 : w.cell? ⟨B, 2, none⟩ = some (.int .u8 38)) :
    Calls Tryd.prog 16 #[.slice (some ⟨B, 0, none⟩) 3 3, .int .i64 0, .int .i64 3] w fun e w' => e = .returned (.tuple #[.int .u32 624485, .int .i64 3, .int .i64 0]) ∧ Below w.heap.size w w' := by
  have hB : B < w.heap.size := World.block_lt_of_cell? _ _ c0
  have hB1 : B < w.heap.size + 1 := by omega
  have hB2 : B < w.heap.size + 1 + 1 := by omega
  have hB3 : B < w.heap.size + 1 + 1 + 1 := by omega
  go_enter Tryd.func16, Tryd.ntmps16
  go_wp2_with first | (go_at_call 97; refine (opened_ok _ _ _ _ _ _ (by omega) (by omega) (by omega)).mono ?_; rintro e w' ⟨rfl, rfl⟩) | go_in
  go_rounds 3
  go_ret3
  go_wp2
  exact ⟨by decide, by go_grown⟩


theorem find_109 : findIn grs 109 = ([100, 105, 118, 95, 115], false) := by decide +kernel

set_option maxRecDepth 100000 in
set_option maxHeartbeats 1600000 in
theorem binary_div (w : World) (htab : Lib.TabIs Tryd.prog w "strings.asciiSpace" .u8 Lib.asciiSpaceTab) :
    Calls Tryd.prog 63 #[.int .i64 109, .int .u64 7, .int .u64 4294967294] w fun e w' => e = .returned (.tuple #[.int .u64 4294967293, .int .i64 0]) ∧ Below w.heap.size w w' := by
  have hf := (find_any 109 w htab (by omega) (by omega))
  rw [find_109] at hf
  have H := Lib.hid hf
  clear hf htab
  go_enter Tryd.func63, Tryd.ntmps63
  go_wp2_with fail
  go_step3
  go_wp2_with fail
  refine H.out.mono ?_
  rintro e w1 ⟨rfl, hb⟩
  have hb' := Lib.hid hb
  clear hb
  have hw : wrap64 (wrap32 4294967294) = -2 := by unfold wrap64 wrap32; decide
  go_wp2
  rw [Exit.noGoto_ret]
  go_ret2
  exact ⟨rfl, hb'.out⟩


set_option maxRecDepth 100000 in
set_option maxHeartbeats 1600000 in
/-- 'reckons': always true; what was there stays. -/
theorem reckons_any (w : World) (htab : Lib.TabIs Tryd.prog w "strings.asciiSpace" .u8 Lib.asciiSpaceTab) :
    Calls Tryd.prog 14 #[] w fun e w' => e = .returned (.bool true) ∧ Below w.heap.size w w' := by
  have HT := Lib.hid htab
  clear htab
  go_enter Tryd.func14, Tryd.ntmps14
  go_wp2_with fail
  refine (u32_three w.heap.size _ (by simp) (by simp) (by simp)).mono ?_
  rintro e w1 ⟨rfl, hb⟩
  have hb1 := Lib.hid ((Below.refl w.heap.size w).alloc (Nat.le_refl _) _ |>.trans (hb.mono (by simp)))
  have HT1 := Lib.hid (tab_below hb1.out HT.out)
  clear hb HT
  go_wp2_with fail
  refine (binary_div _ HT1.out).mono ?_
  rintro e w2 ⟨rfl, hb⟩
  have hb2 := Lib.hid (hb1.out.trans (hb.mono hb1.out.size))
  clear hb hb1 HT1
  go_wp2
  go_ret
  exact ⟨rfl, hb2.out⟩

end Go.Proofs.YtcknpgenfhlcmaaDoor
