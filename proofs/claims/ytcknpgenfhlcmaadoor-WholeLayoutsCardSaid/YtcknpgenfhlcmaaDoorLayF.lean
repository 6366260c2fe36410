import Derived.Test.YtcknpgenfhlcmaaDoorLayE
namespace Go.Proofs.YtcknpgenfhlcmaaDoor
open Go.RowKit

/-- How many words an array takes: N elements, per of them a word. -/
def wordsS (per N : Int) : Int := if N / per + (if 0 < N % per then 1 else 0) = 18446744073709551615 then 18446744073709551615 else 1 + (N / per + (if 0 < N % per then 1 else 0))

def WordsP (w : World) (r : Int) (e : Ending) (w' : World) : Prop := e = .returned (.tuple #[.int .u64 r, .int .i64 0]) ∧ Below w.heap.size w w'

set_option maxRecDepth 100000 in
set_option maxHeartbeats 1600000 in
theorem words_arr (w : World) (fi fb fm : Bool) (su pa re : Value) (g c : Nat) (n fh N : Int) (h1 : 1 ≤ n) (h7 : n ≤ 7) (e0 : w.cell? ⟨g, 0, none⟩ = some (.int .i64 n)) (e1 : w.cell? ⟨g, 1, none⟩ = some (.bool fb)) (e2 : w.cell? ⟨g, 2, none⟩ = some (.int .i64 fh)) (_e3 : w.cell? ⟨g, 3, none⟩ = some (.bool fm))
    (hN0 : 0 ≤ N) (hN1 : N ≤ 18446744073709551615) (hsu : ∃ a n c, su = .slice a n c) (hpa : ∃ a n c, pa = .slice a n c) (hre : ∃ a n c, re = .slice a n c) :
    Calls Tryd.prog 11 #[.agg #[.bool fi, su, .int .i64 3, pa, re, .slice (some ⟨g, 0, none⟩) 1 c], .int .u64 N] w (WordsP w (wordsS (64 / wdT n) N)) := by
  obtain ⟨_, _, _, rfl⟩ := hsu
  obtain ⟨_, _, _, rfl⟩ := hpa
  obtain ⟨_, _, _, rfl⟩ := hre
  have hgl : g < w.heap.size := World.block_lt_of_cell? _ _ e0
  rcases wdT_in n h1 h7 with hw | hw | hw | hw
  all_goals
    have HW := Lib.hid hw
    rw [hw]
    clear hw
  · by_cases hr : 0 < N % 8
    · have hS : wordsS (64 / 8) N = 1 + (N / 8 + 1) := by
        unfold wordsS
        rw [show (64 : Int) / 8 = 8 from rfl, if_pos hr, if_neg (by omega)]
      rw [hS]
      clear hS
      go_enter Tryd.func11, Tryd.ntmps11
      go_wp2_with (go_at_call 61; refine (width_any _ _ _ _ (by omega) (by omega)).mono ?_; rintro e w1 ⟨rfl, hb1⟩; rw [HW.out])
      go_ret2
      exact ⟨rfl, ((Below.refl _ _).alloc (Nat.le_refl _) _).trans (hb1.mono (by simp))⟩
    · have hS : wordsS (64 / 8) N = 1 + N / 8 := by
        unfold wordsS
        rw [show (64 : Int) / 8 = 8 from rfl, if_neg hr, if_neg (by omega)]
        omega
      rw [hS]
      clear hS
      go_enter Tryd.func11, Tryd.ntmps11
      go_wp2_with (go_at_call 61; refine (width_any _ _ _ _ (by omega) (by omega)).mono ?_; rintro e w1 ⟨rfl, hb1⟩; rw [HW.out])
      go_ret2
      exact ⟨rfl, ((Below.refl _ _).alloc (Nat.le_refl _) _).trans (hb1.mono (by simp))⟩
  · by_cases hr : 0 < N % 4
    · have hS : wordsS (64 / 16) N = 1 + (N / 4 + 1) := by
        unfold wordsS
        rw [show (64 : Int) / 16 = 4 from rfl, if_pos hr, if_neg (by omega)]
      rw [hS]
      clear hS
      go_enter Tryd.func11, Tryd.ntmps11
      go_wp2_with (go_at_call 61; refine (width_any _ _ _ _ (by omega) (by omega)).mono ?_; rintro e w1 ⟨rfl, hb1⟩; rw [HW.out])
      go_ret2
      exact ⟨rfl, ((Below.refl _ _).alloc (Nat.le_refl _) _).trans (hb1.mono (by simp))⟩
    · have hS : wordsS (64 / 16) N = 1 + N / 4 := by
        unfold wordsS
        rw [show (64 : Int) / 16 = 4 from rfl, if_neg hr, if_neg (by omega)]
        omega
      rw [hS]
      clear hS
      go_enter Tryd.func11, Tryd.ntmps11
      go_wp2_with (go_at_call 61; refine (width_any _ _ _ _ (by omega) (by omega)).mono ?_; rintro e w1 ⟨rfl, hb1⟩; rw [HW.out])
      go_ret2
      exact ⟨rfl, ((Below.refl _ _).alloc (Nat.le_refl _) _).trans (hb1.mono (by simp))⟩
  · by_cases hr : 0 < N % 2
    · have hS : wordsS (64 / 32) N = 1 + (N / 2 + 1) := by
        unfold wordsS
        rw [show (64 : Int) / 32 = 2 from rfl, if_pos hr, if_neg (by omega)]
      rw [hS]
      clear hS
      go_enter Tryd.func11, Tryd.ntmps11
      go_wp2_with (go_at_call 61; refine (width_any _ _ _ _ (by omega) (by omega)).mono ?_; rintro e w1 ⟨rfl, hb1⟩; rw [HW.out])
      go_ret2
      exact ⟨rfl, ((Below.refl _ _).alloc (Nat.le_refl _) _).trans (hb1.mono (by simp))⟩
    · have hS : wordsS (64 / 32) N = 1 + N / 2 := by
        unfold wordsS
        rw [show (64 : Int) / 32 = 2 from rfl, if_neg hr, if_neg (by omega)]
        omega
      rw [hS]
      clear hS
      go_enter Tryd.func11, Tryd.ntmps11
      go_wp2_with (go_at_call 61; refine (width_any _ _ _ _ (by omega) (by omega)).mono ?_; rintro e w1 ⟨rfl, hb1⟩; rw [HW.out])
      go_ret2
      exact ⟨rfl, ((Below.refl _ _).alloc (Nat.le_refl _) _).trans (hb1.mono (by simp))⟩
  · by_cases hr : N = 18446744073709551615
    · have hS : wordsS (64 / 64) N = 18446744073709551615 := by
        unfold wordsS
        rw [show (64 : Int) / 64 = 1 from rfl, if_pos (by rw [if_neg (by omega)]; omega)]
      rw [hS]
      subst hr
      clear hS
      go_enter Tryd.func11, Tryd.ntmps11
      go_wp2_with (go_at_call 61; refine (width_any _ _ _ _ (by omega) (by omega)).mono ?_; rintro e w1 ⟨rfl, hb1⟩; rw [HW.out])
      go_ret2
      exact ⟨rfl, ((Below.refl _ _).alloc (Nat.le_refl _) _).trans (hb1.mono (by simp))⟩
    · have hS : wordsS (64 / 64) N = 1 + N := by
        unfold wordsS
        rw [show (64 : Int) / 64 = 1 from rfl, if_neg (by rw [if_neg (by omega)]; omega), if_neg (by omega)]
        omega
      rw [hS]
      have hlt : N < 18446744073709551615 := by omega
      have hne : (N == 18446744073709551615) = false := by simp; omega
      clear hS hr
      go_enter Tryd.func11, Tryd.ntmps11
      go_wp2_with (go_at_call 61; refine (width_any _ _ _ _ (by omega) (by omega)).mono ?_; rintro e w1 ⟨rfl, hb1⟩; rw [HW.out])
      go_ret2
      exact ⟨rfl, ((Below.refl _ _).alloc (Nat.le_refl _) _).trans (hb1.mono (by simp))⟩

set_option maxRecDepth 100000 in
set_option maxHeartbeats 1600000 in
theorem layout_bad (w : World) (kd : Int) (fi : Bool) (su pa re fl : Value) (hk : kd = 1 ∨ kd = 3) (hsu : ∃ a n c, su = .slice a n c) (hpa : ∃ a n c, pa = .slice a n c) (hre : ∃ a n c, re = .slice a n c) (hfl : ∃ a n c, fl = .slice a n c) :
    Calls Tryd.prog 9 #[.agg #[.bool fi, su, .int .i64 kd, pa, re, fl]] w fun e w' => e = .returned (.tuple #[.slice none 0 0, .int .i64 0, .int .i64 151]) ∧ Below w.heap.size w w' := by
  obtain ⟨_, _, _, rfl⟩ := hsu
  obtain ⟨_, _, _, rfl⟩ := hpa
  obtain ⟨_, _, _, rfl⟩ := hre
  obtain ⟨_, _, _, rfl⟩ := hfl
  rcases hk with rfl | rfl
  all_goals
    go_enter Tryd.func9, Tryd.ntmps9
    go_wp2
    go_ret3
    exact ⟨rfl, by go_grown⟩

def WordsN (w : World) (e : Ending) (w' : World) : Prop := e = .returned (.tuple #[.int .u64 0, .int .i64 151]) ∧ Below w.heap.size w w'
set_option maxRecDepth 100000 in
set_option maxHeartbeats 1600000 in
theorem words_none (w : World) (N : Int) (fi : Bool) (su pa re fl : Value) (hsu : ∃ a n c, su = .slice a n c) (hpa : ∃ a n c, pa = .slice a n c) (hre : ∃ a n c, re = .slice a n c) (hfl : ∃ a n c, fl = .slice a n c) :
    Calls Tryd.prog 11 #[.agg #[.bool fi, su, .int .i64 1, pa, re, fl], .int .u64 N] w (WordsN w) := by
  have H := Lib.hid (fun W => layout_bad W 1 fi su pa re fl (.inl rfl) hsu hpa hre hfl)
  obtain ⟨_, _, _, rfl⟩ := hsu
  obtain ⟨_, _, _, rfl⟩ := hpa
  obtain ⟨_, _, _, rfl⟩ := hre
  obtain ⟨_, _, _, rfl⟩ := hfl
  go_enter Tryd.func11, Tryd.ntmps11
  go_wp2_with (go_at_call 9; refine (H.out _).mono ?_; rintro e w1 ⟨rfl, hb1⟩)
  go_ret2
  exact ⟨rfl, ((Below.refl _ _).alloc (Nat.le_refl _) _).trans (hb1.mono (by simp))⟩

set_option maxRecDepth 100000 in
set_option maxHeartbeats 1600000 in
theorem words_struct (w : World) (N : Int) (fi : Bool) (su pa re : Value) (A : Option Addr) (c g : Nat) (ns : List Int) (hA : 0 < ns.length → A = some ⟨g, 0, none⟩) (hF : FieldsIn w g ns) (hn : ns.length ≤ 100) (hsu : ∃ a n c, su = .slice a n c) (hpa : ∃ a n c, pa = .slice a n c) (hre : ∃ a n c, re = .slice a n c) (h0 : 0 ≤ endS ns 0) (h1 : endS ns 0 ≤ 12800) :
    Calls Tryd.prog 11 #[.agg #[.bool fi, su, .int .i64 2, pa, re, .slice A ns.length c], .int .u64 N] w (WordsP w (1 + (endS ns 0 + 63) / 64)) := by
  have H := Lib.hid (fun W hW => layout_any W fi su pa re A c g ns hA hW hn hsu hpa hre)
  have HF : Hid (∀ o, FieldsIn (w.alloc o) g ns) := by
    intro o j hj
    obtain ⟨q1, q7, b, h, mt, e0, e1, e2, e3⟩ := hF j hj
    have hgl : g < w.heap.size := World.block_lt_of_cell? _ _ e0
    have hb := (Below.refl w.heap.size w).alloc (Nat.le_refl _) o
    exact ⟨q1, q7, b, h, mt, (hb.cell (p := ⟨g, _, none⟩) hgl).trans e0, (hb.cell (p := ⟨g, _, none⟩) hgl).trans e1, (hb.cell (p := ⟨g, _, none⟩) hgl).trans e2, (hb.cell (p := ⟨g, _, none⟩) hgl).trans e3⟩
  clear hA hF
  obtain ⟨_, _, _, rfl⟩ := hsu
  obtain ⟨_, _, _, rfl⟩ := hpa
  obtain ⟨_, _, _, rfl⟩ := hre
  go_enter Tryd.func11, Tryd.ntmps11
  go_wp2_with (go_at_call 9; refine (H.out _ (HF.out _)).mono ?_; rintro e w1 ⟨v, rfl, _, hb1⟩)
  go_ret2
  refine ⟨rfl, ((Below.refl _ _).alloc (Nat.le_refl _) _).trans (hb1.mono (by simp))⟩

end Go.Proofs.YtcknpgenfhlcmaaDoor
