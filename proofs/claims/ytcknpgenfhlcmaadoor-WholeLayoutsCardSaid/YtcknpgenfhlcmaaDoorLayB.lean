import Derived.Test.YtcknpgenfhlcmaaDoorLayA
namespace Go.Proofs.YtcknpgenfhlcmaaDoor
open Go.RowKit

/-- Does a value fit a part of type number n? -/
def fitB (n ty rk : Int) (ad : Int) (out : Bool) : Bool :=
  decide (ty = unT n) && (decide (unT n ≠ 5) || (decide (0 ≤ rk ∧ rk ≤ 5) && decide (ad < 1152921504606846976) && (decide (rk ≠ 0) || (decide (ad = 0) && !out))))

theorem fit_no {n ty rk ad : Int} {out : Bool} (h : ty ≠ unT n) : fitB n ty rk ad out = false := by simp [fitB, h]
theorem fit_num {n ty rk ad : Int} {out : Bool} (h : ty = unT n) (h5 : unT n ≠ 5) : fitB n ty rk ad out = true := by simp [fitB, h, h5]
theorem fit_out {rk ad : Int} {out : Bool} (h : rk < 0 ∨ 5 < rk) : fitB 5 5 rk ad out = false := by
  have h5 : unT 5 = 5 := rfl
  have : ¬ (0 ≤ rk ∧ rk ≤ 5) := by omega
  simp [fitB, h5, this]
theorem fit_far {rk ad : Int} {out : Bool} (h : 1152921504606846976 ≤ ad) : fitB 5 5 rk ad out = false := by
  have h5 : unT 5 = 5 := rfl
  have : ¬ (ad < 1152921504606846976) := by omega
  simp [fitB, h5, this]
theorem fit_in {rk ad : Int} {out : Bool} (h0 : 0 < rk) (h5 : rk ≤ 5) (h : ad < 1152921504606846976) : fitB 5 5 rk ad out = true := by
  have hu : unT 5 = 5 := rfl
  have h1 : 0 ≤ rk ∧ rk ≤ 5 := by omega
  have h2 : rk ≠ 0 := by omega
  simp [fitB, hu, h1, h2, h]
theorem fit_nul {ad : Int} {out : Bool} (h : ad < 1152921504606846976) : fitB 5 5 0 ad out = (decide (ad = 0) && !out) := by
  have hu : unT 5 = 5 := rfl
  simp [fitB, hu, h]
theorem fit_nul0 {ad : Int} (h : ad ≠ 0) {out : Bool} : fitB 5 5 0 ad out = false := by
  have hu : unT 5 = 5 := rfl
  simp [fitB, hu, h]

set_option maxRecDepth 100000 in
set_option maxHeartbeats 1600000 in
theorem fits_any (n h ty bi rk ad : Int) (b out : Bool) (w : World) (h1 : 1 ≤ n) (h7 : n ≤ 7) (ha : 0 ≤ ad) :
    Calls Tryd.prog 12 #[.agg #[.int .i64 n, .bool b, .int .i64 h], .agg #[.int .i64 ty, .int .u64 bi, .int .i64 rk, .int .u64 ad, .bool out]] w fun e w' => e = .returned (.bool (fitB n ty rk ad out)) ∧ Below w.heap.size w w' := by
  have hu1 : 1 ≤ unT n := by unfold unT; split <;> omega
  have hu5 : unT n ≤ 5 := by unfold unT; split <;> omega
  by_cases c1 : ty = unT n
  · by_cases c2 : unT n = 5
    · obtain rfl : n = 5 := by unfold unT at c2; split at c2 <;> omega
      obtain rfl : ty = 5 := c1
      have H := Lib.hid (fun W => unpack_any 5 h b W h1 h7)
      have e5 : unT 5 = 5 := rfl
      rw [e5] at H
      clear c2 e5 hu1 hu5
      rcases Int.lt_or_le rk 0 with c3 | c3
      · rw [fit_out (.inl c3)]
        have c0 : (rk == 0) = false := by simp; omega
        go_enter Tryd.func12, Tryd.ntmps12
        go_wp2_with (go_at_call 62; refine (H.out _).mono ?_; rintro e w1 ⟨b', h', rfl, rfl⟩)
        go_ret
        exact ⟨by first | rfl | (simp; done) | (simp; omega), by go_grown⟩
      · by_cases c4 : rk = 0
        · subst c4
          by_cases c5 : ad = 0
          · subst c5
            rw [fit_nul (by omega)]
            cases out
            all_goals
              go_enter Tryd.func12, Tryd.ntmps12
              go_wp2_with (go_at_call 62; refine (H.out _).mono ?_; rintro e w1 ⟨b', h', rfl, rfl⟩)
              go_ret
              exact ⟨rfl, by go_grown⟩
          · rw [fit_nul0 c5]
            have c5' : (ad == 0) = false := by simp; omega
            clear c5
            go_enter Tryd.func12, Tryd.ntmps12
            go_wp2_with (go_at_call 62; refine (H.out _).mono ?_; rintro e w1 ⟨b', h', rfl, rfl⟩)
            go_ret
            exact ⟨by first | rfl | (simp; done), by go_grown⟩
        · have c0 : (rk == 0) = false := by simp; omega
          have c6 : 0 < rk := by omega
          clear c4 c3
          rcases Int.lt_or_le 5 rk with c7 | c7
          · rw [fit_out (.inr c7)]
            go_enter Tryd.func12, Tryd.ntmps12
            go_wp2_with (go_at_call 62; refine (H.out _).mono ?_; rintro e w1 ⟨b', h', rfl, rfl⟩)
            go_ret
            exact ⟨by first | rfl | (simp; done) | (simp; omega), by go_grown⟩
          · rcases Int.lt_or_le ad 1152921504606846976 with c8 | c8
            · rw [fit_in c6 c7 c8]
              go_enter Tryd.func12, Tryd.ntmps12
              go_wp2_with (go_at_call 62; refine (H.out _).mono ?_; rintro e w1 ⟨b', h', rfl, rfl⟩)
              go_ret
              exact ⟨by first | rfl | (simp; done) | (simp; omega), by go_grown⟩
            · rw [fit_far c8]
              go_enter Tryd.func12, Tryd.ntmps12
              go_wp2_with (go_at_call 62; refine (H.out _).mono ?_; rintro e w1 ⟨b', h', rfl, rfl⟩)
              go_ret
              exact ⟨by first | rfl | (simp; done) | (simp; omega), by go_grown⟩
    · rw [fit_num c1 c2]
      obtain ⟨u, hu⟩ : ∃ u, unT n = u := ⟨_, rfl⟩
      have H := Lib.hid (fun W => unpack_any n h b W h1 h7)
      rw [hu] at hu1 hu5 c2 H c1
      subst c1
      have c2' : (ty == 5) = false := by simpa using c2
      clear hu c2
      go_enter Tryd.func12, Tryd.ntmps12
      go_wp2_with (go_at_call 62; refine (H.out _).mono ?_; rintro e w1 ⟨b', h', rfl, rfl⟩)
      go_ret
      exact ⟨rfl, by go_grown⟩
  · rw [fit_no c1]
    obtain ⟨u, hu⟩ : ∃ u, unT n = u := ⟨_, rfl⟩
    have H := Lib.hid (fun W => unpack_any n h b W h1 h7)
    rw [hu] at hu1 hu5 H c1
    have c2' : (ty == u) = false := by simpa using c1
    clear hu c1
    go_enter Tryd.func12, Tryd.ntmps12
    go_wp2_with (go_at_call 62; refine (H.out _).mono ?_; rintro e w1 ⟨b', h', rfl, rfl⟩)
    go_ret
    exact ⟨rfl, by go_grown⟩

set_option maxRecDepth 100000 in
set_option maxHeartbeats 1600000 in
theorem fitting_any (n h ty bi rk ad : Int) (b out : Bool) (w : World) (h1 : 1 ≤ n) (h7 : n ≤ 7) (ha : 0 ≤ ad) :
    Calls Tryd.prog 13 #[.agg #[.int .i64 n, .bool b, .int .i64 h], .agg #[.int .i64 ty, .int .u64 bi, .int .i64 rk, .int .u64 ad, .bool out]] w fun e w' => e = .returned (.bool (fitB n ty rk ad out)) ∧ Below w.heap.size w w' := by
  have hu1 : 1 ≤ unT n := by unfold unT; split <;> omega
  have hu5 : unT n ≤ 5 := by unfold unT; split <;> omega
  by_cases c1 : ty = unT n
  · by_cases c2 : unT n = 5
    · obtain rfl : n = 5 := by unfold unT at c2; split at c2 <;> omega
      obtain rfl : ty = 5 := c1
      clear c2 hu1 hu5
      rcases Int.lt_or_le rk 0 with c3 | c3
      · rw [fit_out (.inl c3)]
        have c0 : (rk == 0) = false := by simp; omega
        go_enter Tryd.func13, Tryd.ntmps13
        go_wp2
        go_ret
        exact ⟨by first | rfl | (simp; done) | (simp; omega), by go_grown⟩
      · by_cases c4 : rk = 0
        · subst c4
          by_cases c5 : ad = 0
          · subst c5
            rw [fit_nul (by omega)]
            cases out
            all_goals
              go_enter Tryd.func13, Tryd.ntmps13
              go_wp2
              go_ret
              exact ⟨rfl, by go_grown⟩
          · rw [fit_nul0 c5]
            have c5' : (ad == 0) = false := by simp; omega
            clear c5
            rcases Int.lt_or_le ad 1152921504606846976 with c8 | c8
            all_goals
              go_enter Tryd.func13, Tryd.ntmps13
              go_wp2
              go_ret
              exact ⟨by first | rfl | (simp; done), by go_grown⟩
        · have c0 : (rk == 0) = false := by simp; omega
          have c6 : 0 < rk := by omega
          clear c4 c3
          rcases Int.lt_or_le 5 rk with c7 | c7
          · rw [fit_out (.inr c7)]
            go_enter Tryd.func13, Tryd.ntmps13
            go_wp2
            go_ret
            exact ⟨by first | rfl | (simp; done) | (simp; omega), by go_grown⟩
          · rcases Int.lt_or_le ad 1152921504606846976 with c8 | c8
            · rw [fit_in c6 c7 c8]
              go_enter Tryd.func13, Tryd.ntmps13
              go_wp2
              go_ret
              exact ⟨by first | rfl | (simp; done) | (simp; omega), by go_grown⟩
            · rw [fit_far c8]
              go_enter Tryd.func13, Tryd.ntmps13
              go_wp2
              go_ret
              exact ⟨by first | rfl | (simp; done) | (simp; omega), by go_grown⟩
    · rw [fit_num c1 c2]
      by_cases c3 : 5 < n
      · have hu : unT n = 1 := if_pos c3
        rw [hu] at c1
        subst c1
        clear c2 hu hu1 hu5
        go_enter Tryd.func13, Tryd.ntmps13
        go_wp2
        go_ret
        exact ⟨rfl, by go_grown⟩
      · have hu : unT n = n := if_neg c3
        rw [hu] at c1 c2
        subst c1
        have c2' : (ty == 5) = false := by simpa using c2
        have c2'' : (ty != 5) = true := by simpa using c2
        clear c2 hu hu1 hu5
        go_enter Tryd.func13, Tryd.ntmps13
        go_wp2
        go_ret
        exact ⟨rfl, by go_grown⟩
  · rw [fit_no c1]
    by_cases c3 : 5 < n
    · have hu : unT n = 1 := if_pos c3
      rw [hu] at c1
      have c2' : (ty == 1) = false := by simpa using c1
      clear c1 hu hu1 hu5
      go_enter Tryd.func13, Tryd.ntmps13
      go_wp2
      go_ret
      exact ⟨rfl, by go_grown⟩
    · have hu : unT n = n := if_neg c3
      rw [hu] at c1
      have c2' : (ty == n) = false := by simpa using c1
      clear c1 hu hu1 hu5
      go_enter Tryd.func13, Tryd.ntmps13
      go_wp2
      go_ret
      exact ⟨rfl, by go_grown⟩

end Go.Proofs.YtcknpgenfhlcmaaDoor
