import Derived.Test.YtcknpgenfhlcmaaDoorLayB
namespace Go.Proofs.YtcknpgenfhlcmaaDoor
open Go.RowKit

theorem add_block (ad : Addr) (j : Nat) : (ad.add j).block = ad.block := by unfold Addr.add; split <;> rfl

/-- A reel at block R: its bytes are read elsewhere; all of it lies below block M. -/
def ReelAt (M : Nat) (w : World) (R : Nat) (A : Option Addr) (n c k : Nat) (xs : List Int) : Prop :=
  w.heap[R]? = some (.cells #[.slice A n c, .int .i64 k] 28 (0, 0)) ∧ k ≤ n ∧ n ≤ 1000 ∧ xs.length = n ∧ (∀ x ∈ xs, 0 ≤ x ∧ x ≤ 255) ∧ (0 < n → ∃ ad, A = some ad ∧ ad.block < M ∧ ad.block ≠ R ∧ ∀ j, j < n → w.cell? (ad.add j) = some (.int .u8 (xs.getD j 0)))
def ReelOk (M : Nat) (w : World) (R : Nat) : Prop := R < M ∧ M ≤ w.heap.size ∧ ∃ A n c k xs, ReelAt M w R A n c k xs

/-- What happens above block M does not touch the reel. -/
theorem ReelOk.keep {M : Nat} {w w' : World} {R : Nat} (h : ReelOk M w R) (hb : Below M w w') : ReelOk M w' R := by
  obtain ⟨hR, hM, A, n, c, k, xs, h1, h2, h3, h4, h5, h6⟩ := h
  refine ⟨hR, Nat.le_trans hM hb.size, A, n, c, k, xs, (hb.block R hR).trans h1, h2, h3, h4, h5, fun hn => ?_⟩
  obtain ⟨ad, e, hl, hr, hc⟩ := h6 hn
  refine ⟨ad, e, hl, hr, fun j hj => ?_⟩
  rw [World.cell?_of_block (w := w) (by rw [add_block]; exact hb.block _ hl), hc j hj]

theorem grownBy_drewN {w W : World} {row : Option Nat} (h : w.grownBy W row) (q : Nat) : w.grownBy (W.drewN q) row := ⟨h.os, h.tape, h.output, h.size, h.block⟩
theorem grownBy_refl (w : World) (row : Option Nat) : w.grownBy w row := ⟨rfl, rfl, rfl, Nat.le_refl _, fun _ _ _ => rfl⟩
theorem grownBy_trans {a b c : World} {row : Option Nat} (h : a.grownBy b row) (k : b.grownBy c row) : a.grownBy c row := ⟨k.os.trans h.os, k.tape.trans h.tape, k.output.trans h.output, Nat.le_trans h.size k.size, fun i hi hr => (k.block i (Nat.lt_of_lt_of_le hi h.size) hr).trans (h.block i hi hr)⟩
theorem grownBy_alloc {w W : World} {row : Option Nat} (h : w.grownBy W row) (o : Obj) : w.grownBy (W.alloc o) row := grownBy_trans h (World.grownBy_alloc _ _ _)
theorem grownBy_below {w W : World} {row : Option Nat} (h : Below w.heap.size w W) : w.grownBy W row := ⟨h.os, h.tape, h.output, h.size, fun i hi _ => h.block i hi⟩
theorem grownBy_set {w W : World} {row : Option Nat} (h : w.grownBy W row) (p : Addr) (v : Value) (hp : row = some p.block ∨ w.heap.size ≤ p.block) : w.grownBy (W.setCell p v) row :=
  ⟨h.os, h.tape, h.output, Nat.le_trans h.size (by simp [World.setCell]), fun i hi hr => (Below.heap_setCell _ _ _ _ (by rcases hp with rfl | hp; exact fun e => hr (by rw [e]); omega)).trans (h.block i hi hr)⟩

theorem heap_set_cells {w : World} {R : Nat} {cs : Array Value} {t : TypeId} {fr : Nat × Nat} (h : w.heap[R]? = some (.cells cs t fr)) (i : Nat) (v : Value) : (w.setCell ⟨R, i, none⟩ v).heap[R]? = some (.cells (cs.setIfInBounds i v) t fr) := by
  simp only [World.setCell, Array.getElem?_modify, h]
  simp

theorem ReelAt.step {M : Nat} {w W : World} {R : Nat} {A : Option Addr} {n c k : Nat} {xs : List Int} (h : ReelAt M w R A n c k xs) (hM : M ≤ w.heap.size) (hk : k < n) (a b : Nat) (hW : W = ((w.drewN a).setCell ⟨R, 1, none⟩ (.int .i64 ((k : Int) + 1))).drewN b) : ReelAt M W R A n c (k + 1) xs ∧ w.grownBy W (some R) := by
  subst hW
  have hg : w.grownBy (((w.drewN a).setCell ⟨R, 1, none⟩ (.int .i64 ((k : Int) + 1))).drewN b) (some R) := grownBy_drewN (grownBy_set (grownBy_drewN (grownBy_refl w _) a) _ _ (.inl rfl)) b
  refine ⟨?_, hg⟩
  obtain ⟨h1, h2, h3, h4, h5, h6⟩ := h
  refine ⟨?_, hk, h3, h4, h5, fun hn => ?_⟩
  · exact heap_set_cells (w := w.drewN a) h1 1 _
  · obtain ⟨ad, e, hl, hr, hc⟩ := h6 hn
    refine ⟨ad, e, hl, hr, fun j hj => ?_⟩
    rw [World.cell?_of_block (w := w) (by rw [add_block]; exact hg.block _ (by omega) (fun e => hr (Option.some.inj e))), hc j hj]

set_option maxRecDepth 100000 in
set_option maxHeartbeats 1600000 in
theorem next_any (M : Nat) (w : World) (R : Nat) (h : ReelOk M w R) :
    Calls Tryd.prog 7 #[.pointer (some ⟨R, 0, none⟩)] w fun e w' => ∃ x : Int, 0 ≤ x ∧ x ≤ 255 ∧ e = .returned (.int .i64 x) ∧ ReelOk M w' R ∧ w.grownBy w' (some R) := by
  obtain ⟨hRM, hM, A, n, c, k, xs, h⟩ := h
  have H := Lib.hid h
  obtain ⟨h1, h2, h3, h4, h5, h6⟩ := h
  have g1 : w.cell? ⟨R, 0, none⟩ = some (.slice A n c) := by simp [World.cell?, h1]
  have g2 : w.cell? ⟨R, 1, none⟩ = some (.int .i64 k) := by simp [World.cell?, h1]
  have gf : w.frozen? ⟨R, 1, none⟩ = false := by simp [World.frozen?, h1]
  clear h1
  by_cases hk : k < n
  · obtain ⟨ad, rfl, hl, hr, hc⟩ := h6 (by omega)
    have hx := hc k hk
    obtain ⟨x, hxx⟩ : ∃ x, xs.getD k 0 = x := ⟨_, rfl⟩
    have hb : 0 ≤ x ∧ x ≤ 255 := by
      rw [← hxx, List.getD_eq_getElem?_getD, List.getElem?_eq_getElem (by omega)]
      exact h5 _ (List.getElem_mem _)
    obtain ⟨hx0, hx1⟩ := hb
    rw [hxx] at hx
    clear h4 h5 h6 hc hxx
    have hw1 : IntKind.i64.wrap (k : Int) = k := IntWalk.i64_in _ (by omega)
    have hc2 : ∀ q v, ((w.drewN q).setCell ⟨R, 1, none⟩ v).cell? (ad.add k) = some (.int .u8 x) := by
      intro q v
      have hb : ((w.drewN q).setCell ⟨R, 1, none⟩ v).heap[(ad.add k).block]? = w.heap[(ad.add k).block]? := Below.heap_setCell _ _ _ _ (by rw [add_block]; exact hr)
      rw [World.cell?_of_block hb, hx]
    clear hx hr
    go_enter Tryd.func7, Tryd.ntmps7
    go_wp2
    go_quiet (fail)
    go_wp2
    go_quiet (fail)
    go_wp2
    go_ret
    obtain ⟨q1, q2⟩ := H.out.step hM hk _ _ rfl
    exact ⟨x, hx0, hx1, rfl, ⟨hRM, Nat.le_trans hM q2.size, _, _, _, _, _, q1⟩, q2⟩
  · obtain rfl : k = n := by omega
    clear h4 h5 h6 hk
    go_enter Tryd.func7, Tryd.ntmps7
    go_wp2
    go_quiet (fail)
    go_wp2
    go_ret
    exact ⟨0, by omega, by omega, rfl, ⟨hRM, hM, _, _, _, _, _, H.out⟩, grownBy_drewN (grownBy_refl _ _) _⟩

end Go.Proofs.YtcknpgenfhlcmaaDoor
