import Derived.Test.YtcknpgenfhlcmaaDoorLayC
namespace Go.Proofs.YtcknpgenfhlcmaaDoor
open Go.RowKit

theorem cell_of_heap {w : World} {B i : Nat} {cs : Array Value} {t : TypeId} {fr : Nat × Nat} {v : Value} (h : w.heap[B]? = some (.cells cs t fr)) (hv : cs[i]? = some v) : w.cell? ⟨B, i, none⟩ = some v := by simp [World.cell?, h, hv]
theorem free_of_heap {w : World} {B i : Nat} {cs : Array Value} {t : TypeId} (h : w.heap[B]? = some (.cells cs t (0, 0))) : w.frozen? ⟨B, i, none⟩ = false := by simp [World.frozen?, h]
theorem heap_alloc_new' (w : World) (o : Obj) : (w.alloc o).heap[w.heap.size]? = some o := by
  show (w.heap.push o)[w.heap.size]? = _
  simp
theorem heap_alloc_old' {w : World} {o : Obj} {k : Nat} (h : k < w.heap.size) : (w.alloc o).heap[k]? = w.heap[k]? := Below.heap_alloc _ _ _ h
theorem grownBy_at {w W : World} {row : Option Nat} (h : w.grownBy W row) (B i : Nat) (v : Value) (hp : w.heap.size ≤ B) : w.grownBy (W.setCell ⟨B, i, none⟩ v) row := grownBy_set h _ _ (.inr hp)
theorem below_set {M : Nat} {w W : World} (h : Below M w W) (p : Addr) (v : Value) (hp : M ≤ p.block) : Below M w (W.setCell p v) := h.setCell hp v

def ValuedP (M : Nat) (w : World) (R : Nat) (e : Ending) (w' : World) : Prop := ∃ (n hp : Int) (b : Bool), 1 ≤ n ∧ n ≤ 7 ∧ e = .returned (.agg #[.int .i64 n, .bool b, .int .i64 hp]) ∧ ReelOk M w' R ∧ w.grownBy w' (some R)

set_option maxRecDepth 100000 in
set_option maxHeartbeats 1600000 in
theorem valued_any (M : Nat) (w : World) (R : Nat) (h : ReelOk M w R) :
    Calls Tryd.prog 8 #[.pointer (some ⟨R, 0, none⟩), .int .i64 3, .bool true] w (ValuedP M w R) := by
  have hRM := h.1
  have hM := h.2.1
  have H0 := Lib.hid (h.keep ((Below.refl M w).alloc hM (.cells #[.int .i64 0, .bool false, .int .i64 0] 38)))
  have hix := fun n h0 h7 => ix_kind n h0 h7
  have Hix := Lib.hid hix
  clear h hix
  go_enter Tryd.func8, Tryd.ntmps8
  go_wp2_with fail
  refine (next_any _ _ _ H0.out).mono ?_
  rintro e w1 ⟨x, hx0, hx1, rfl, hR1, hg1⟩
  have b1 : w1.heap[w.heap.size]? = some (.cells #[.int .i64 0, .bool false, .int .i64 0] 38 (0, 0)) := (hg1.block _ (by simp) (fun e => by have := Option.some.inj e; omega)).trans (heap_alloc_new' _ _)
  have c0 := cell_of_heap (i := 0) b1 rfl
  have c1 := cell_of_heap (i := 1) b1 rfl
  have c2 := cell_of_heap (i := 2) b1 rfl
  have f0 := free_of_heap (i := 0) b1
  have f1 := free_of_heap (i := 1) b1
  have f2 := free_of_heap (i := 2) b1
  have hs1 : w.heap.size < w1.heap.size := by have := hg1.size; simp at this; omega
  have B1 := Lib.hid b1
  have HR1 := Lib.hid hR1
  have HG1 := Lib.hid hg1
  clear b1 hR1 hg1
  by_cases h4 : x % 8 < 4 ∨ 5 < x % 8
  · have hi := Hix.out (x % 8) (by omega) (by omega)
    have hk : 1 ≤ kindT (x % 8) ∧ kindT (x % 8) ≤ 7 := by
      have : x % 8 = 0 ∨ x % 8 = 1 ∨ x % 8 = 2 ∨ x % 8 = 3 ∨ x % 8 = 6 ∨ x % 8 = 7 := by omega
      rcases this with e | e | e | e | e | e <;> rw [e] <;> decide
    rcases h4 with h4 | h4
    · go_wp2
      refine bodyPost_ret (v := .agg #[.int .i64 (kindT (x % 8)), .bool false, .int .i64 0]) (by simp [results, Tryd.results8, go_sem, c0, c1, c2]) rfl ⟨_, _, _, hk.1, hk.2, rfl, ?_, ?_⟩
      · exact HR1.out.keep (below_set (below_set (below_set (Below.refl _ _) _ _ hM) _ _ hM) _ _ hM)
      · exact grownBy_set (grownBy_set (grownBy_set (grownBy_trans (World.grownBy_alloc _ _ _) HG1.out) _ _ (.inr (Nat.le_refl _))) _ _ (.inr (Nat.le_refl _))) _ _ (.inr (Nat.le_refl _))
    · have h4' : 4 ≤ x % 8 := by omega
      go_wp2
      refine bodyPost_ret (v := .agg #[.int .i64 (kindT (x % 8)), .bool false, .int .i64 0]) (by simp [results, Tryd.results8, go_sem, c0, c1, c2]) rfl ⟨_, _, _, hk.1, hk.2, rfl, ?_, ?_⟩
      · exact HR1.out.keep (below_set (below_set (below_set (Below.refl _ _) _ _ hM) _ _ hM) _ _ hM)
      · exact grownBy_set (grownBy_set (grownBy_set (grownBy_trans (World.grownBy_alloc _ _ _) HG1.out) _ _ (.inr (Nat.le_refl _))) _ _ (.inr (Nat.le_refl _))) _ _ (.inr (Nat.le_refl _))
  · have h4' : 4 ≤ x % 8 := by omega
    have h5' : x % 8 ≤ 5 := by omega
    clear h4 Hix
    by_cases h3 : 0 < x % 3
    · obtain ⟨bb, hbb⟩ : ∃ bb : Bool, (x / 8 % 2 == 1) = bb := ⟨_, rfl⟩
      have H2 := fun o => (HR1.out.keep ((Below.refl M w1).alloc HR1.out.2.1 o))
      have HH2 := Lib.hid H2
      clear H2 
      go_wp2_with fail
      refine (next_any _ _ _ (HH2.out _)).mono ?_
      rintro e w2 ⟨y, hy0, hy1, rfl, hR2, hg2⟩
      have hRlt : R < w1.heap.size := by omega
      have b2 := (hg2.block w1.heap.size (by simp) (fun e => by have := Option.some.inj e; omega)).trans (heap_alloc_new' _ _)
      have b3 := (hg2.block w.heap.size (by simp; omega) (fun e => by have := Option.some.inj e; omega)).trans ((heap_alloc_old' hs1).trans B1.out)
      have d0 := cell_of_heap (i := 0) b2 rfl
      have d1 := cell_of_heap (i := 1) b2 rfl
      have d2 := cell_of_heap (i := 2) b2 rfl
      have k0 := free_of_heap (i := 0) b2
      have k1 := free_of_heap (i := 1) b2
      have k2 := free_of_heap (i := 2) b2
      have c0 := cell_of_heap (i := 0) b3 rfl
      have c1 := cell_of_heap (i := 1) b3 rfl
      have c2 := cell_of_heap (i := 2) b3 rfl
      have f0 := free_of_heap (i := 0) b3
      have f1 := free_of_heap (i := 1) b3
      have f2 := free_of_heap (i := 2) b3
      have hs2 : w1.heap.size < w2.heap.size := by have := hg2.size; simp at this; omega
      have hne : w.heap.size ≠ w1.heap.size := by omega
      have HR2 := Lib.hid hR2
      have HG2 := Lib.hid hg2
      clear b2 b3 hR2 hg2
      go_wp2
      refine bodyPost_ret (v := .agg #[.int .i64 5, .bool bb, .int .i64 (y % 3)]) (by simp [results, Tryd.results8, go_sem, c0, c1, c2]) rfl ⟨_, _, _, by omega, by omega, rfl, ?_, ?_⟩
      · exact HR2.out.keep (by go_grown)
      · have hgg := grownBy_trans (grownBy_trans (World.grownBy_alloc w (.cells #[.int .i64 0, .bool false, .int .i64 0] 38) (some R)) HG1.out) (grownBy_trans (World.grownBy_alloc _ _ _) HG2.out)
        repeat (first | exact hgg | (refine grownBy_at ?_ _ _ _ (by omega)) | (refine grownBy_alloc ?_ _))
    · have h3' : x % 3 ≤ 0 := by omega
      go_wp2
      refine bodyPost_ret (v := .agg #[.int .i64 5, .bool (x / 8 % 2 == 1), .int .i64 (-1 - x / 16 % 12)]) (by simp [results, Tryd.results8, go_sem, c0, c1, c2, hs1]) rfl ⟨_, _, _, by omega, by omega, rfl, ?_, ?_⟩
      · exact HR1.out.keep (by go_grown)
      · have hgg := grownBy_trans (World.grownBy_alloc w (.cells #[.int .i64 0, .bool false, .int .i64 0] 38) (some R)) HG1.out
        repeat (first | exact hgg | (refine grownBy_at ?_ _ _ _ (by omega)) | (refine grownBy_alloc ?_ _))

end Go.Proofs.YtcknpgenfhlcmaaDoor
