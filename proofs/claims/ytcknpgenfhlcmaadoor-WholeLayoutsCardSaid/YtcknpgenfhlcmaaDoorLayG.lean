import Derived.Test.YtcknpgenfhlcmaaDoorLayF
import Derived.Test.YtcknpgenfhlcmaaDoorReck
import Derived.Deep.RegionHeld3
import Derived.Deep.AppendLies
import Derived.Deep.RegionLaw
namespace Go.Proofs.YtcknpgenfhlcmaaDoor
open Go.RowKit

/-- A slice of bytes that came in. -/
def BytesIn (w : World) (A : Option Addr) (n : Nat) (xs : List Int) : Prop :=
  xs.length = n ∧ (∀ x ∈ xs, 0 ≤ x ∧ x ≤ 255) ∧ (0 < n → ∃ ad, A = some ad ∧ ad.block < w.heap.size ∧ ∀ j, j < n → w.cell? (ad.add j) = some (.int .u8 (xs.getD j 0)))

/-- The cells of a list of fields. -/
def fldCells (l : List (Int × Bool × Int)) : List Value := l.flatMap fun f => [.int .i64 f.1, .bool f.2.1, .int .i64 f.2.2, .bool false]
theorem fldCells_append (l m : List (Int × Bool × Int)) : fldCells (l ++ m) = fldCells l ++ fldCells m := by simp [fldCells]
theorem info41 : (Tryd.prog.info? 41).map (fun i => (i.zero, i.size, i.bytes)) = some (some (.agg #[.int .i64 0, .bool false, .int .i64 0, .bool false]), 4, 32) := by kernel_rfl

def SBlk (F : Value) : Obj := .cells #[.bool false, .slice none 0 0, .int .i64 2, .slice none 0 0, .slice none 0 0, F] 35 (0, 0)
def VBlk (op va vb vn : Int) : Obj := .cells #[.int .u8 op, .int .u8 va, .int .u8 vb, .int .u64 vn] 25 (0, 0)

/-- What holds while the fields are drawn: N blocks were there; then v, the reel, the struct type. -/
structure Drawn (N : Nat) (w wr : World) (op va vb vn : Int) (F : Value) (fs : List (Int × Bool × Int)) : Prop where
  reel : ReelOk (N + 1 + 1) wr (N + 1)
  v : wr.heap[N]? = some (VBlk op va vb vn)
  s : wr.heap[N + 1 + 1]? = some (SBlk F)
  own : wr.ownsRow (N + 3) 41 4 F fs.length (fldCells fs)
  nums : ∀ f ∈ fs, 1 ≤ f.1 ∧ f.1 ≤ 7
  below : Below N w wr
  size : N + 3 ≤ wr.heap.size

theorem ReelOk.drew {M : Nat} {w : World} {R : Nat} (h : ReelOk M w R) : ReelOk M w.drew R := h.keep ((Below.refl _ _).drew)

theorem drawn_step {N : Nat} {w wr w2 w3 : World} {op va vb vn : Int} {F : Value} {fs : List (Int × Bool × Int)} {nn hp : Int} {bb : Bool} {o : Obj} {gg cap : Nat} (HD : Drawn N w wr op va vb vn F fs) (h1 : 1 ≤ nn) (h7 : nn ≤ 7)
    (G2 : wr.drew.grownBy w2 (some (N + 1))) (R2 : ReelOk (N + 1 + 1) w2 (N + 1)) (O3 : w3.ownsRow (N + 3) 41 4 (.slice (some ⟨gg, 0, none⟩) (fs.length + 1) cap) (fs.length + 1) (fldCells fs ++ [.int .i64 nn, .bool bb, .int .i64 hp, .bool false]))
    (G3 : (w2.alloc o).grownBy w3 F.ownBlock) : Drawn N w (w3.setCell ⟨N + 1 + 1, 5, none⟩ (.slice (some ⟨gg, 0, none⟩) (fs.length + 1) cap)) op va vb vn (.slice (some ⟨gg, 0, none⟩) (fs.length + 1) cap) (fs ++ [(nn, bb, hp)]) := by
  have hF : ∀ k, F.ownBlock = some k → N + 3 ≤ k := fun k hk => (HD.own.lt k hk).1
  have hsz := HD.size
  have hs2 : N + 3 ≤ w2.heap.size := Nat.le_trans hsz G2.size
  have hs3 : N + 3 ≤ w3.heap.size := by have := G3.size; simp at this; omega
  have hne : ∀ k, k < N + 3 → some k ≠ F.ownBlock := fun k hk e => by have := hF k e.symm; omega
  have b2 : ∀ k, k < N + 3 → k ≠ N + 1 → w3.heap[k]? = wr.heap[k]? := fun k hk hk1 =>
    (G3.block k (by simp; omega) (hne k hk)).trans ((heap_alloc_old' (by omega)).trans (G2.block k (by show k < wr.heap.size; omega) (fun e => hk1 (Option.some.inj e))))
  have b1 : w3.heap[N + 1]? = w2.heap[N + 1]? := (G3.block _ (by simp; omega) (hne _ (by omega))).trans (heap_alloc_old' (by omega))
  have B23 : Below (N + 3) w2 w3 := ⟨G3.os, G3.tape, G3.output, by have := G3.size; simp at this; omega, fun k hk => (G3.block k (by simp; omega) (hne k hk)).trans (heap_alloc_old' (by omega))⟩
  refine ⟨R2.keep ((B23.mono (show N + 1 + 1 ≤ N + 3 by omega)).setCell (Nat.le_refl _) _), ?_, ?_, ?_, ?_, ?_, ?_⟩
  · rw [Below.heap_setCell _ _ _ _ (show N ≠ N + 1 + 1 by omega), b2 N (by omega) (by omega), HD.v]
  · rw [heap_set_cells (cs := #[.bool false, .slice none 0 0, .int .i64 2, .slice none 0 0, .slice none 0 0, F]) (t := 35) (fr := (0, 0)) (by rw [b2 _ (by omega) (by omega), HD.s]; rfl)]
    rfl
  · rw [List.length_append, List.length_singleton, fldCells_append]
    exact ownsRow_setCell_below O3 (by show N + 1 + 1 < N + 3; omega) _
  · intro f hf
    rcases List.mem_append.1 hf with h | h
    · exact HD.nums f h
    · rw [List.mem_singleton.1 h]; exact ⟨h1, h7⟩
  · refine Below.setCell ⟨?_, ?_, ?_, ?_, fun k hk => ?_⟩ (by show N ≤ N + 1 + 1; omega) _
    · exact (G3.os.trans G2.os).trans HD.below.os
    · exact (G3.tape.trans G2.tape).trans HD.below.tape
    · exact (G3.output.trans G2.output).trans HD.below.output
    · have := HD.below.size
      have h2 : wr.heap.size ≤ w2.heap.size := G2.size
      have := B23.size
      omega
    · exact (b2 k (by omega) (by omega)).trans (HD.below.block k hk)
  · simpa [World.setCell] using hs3

theorem fldCells_at : ∀ (fs : List (Int × Bool × Int)) (j : Nat), j < fs.length → (fldCells fs)[j * 4]? = some (.int .i64 ((fs.map (·.1)).getD j 0)) ∧ (∃ b, (fldCells fs)[j * 4 + 1]? = some (.bool b)) ∧ (∃ h, (fldCells fs)[j * 4 + 2]? = some (.int .i64 h)) ∧ (fldCells fs)[j * 4 + 3]? = some (.bool false)
  | [], j, h => by simp at h
  | f :: fs, 0, _ => ⟨rfl, ⟨_, rfl⟩, ⟨_, rfl⟩, rfl⟩
  | f :: fs, j + 1, h => by
    have ih := fldCells_at fs j (by simpa using h)
    have e : ∀ i, (fldCells (f :: fs))[(j + 1) * 4 + i]? = (fldCells fs)[j * 4 + i]? := by
      intro i
      show ([_, _, _, _] ++ fldCells fs)[(j + 1) * 4 + i]? = _
      rw [List.getElem?_append_right (by simp; omega)]
      congr 1
      simp; omega
    have e0 := e 0
    simp only [Nat.add_zero] at e0
    rw [e0, e 1, e 2, e 3]
    refine ⟨?_, ih.2.1, ih.2.2.1, ih.2.2.2⟩
    simpa using ih.1

theorem add_at (g j : Nat) : (⟨g, 0, none⟩ : Addr).add j = ⟨g, j, none⟩ := by unfold Addr.add; split <;> simp_all

theorem fields_of_own {w : World} {base : Nat} {F : Value} {fs : List (Int × Bool × Int)} (h : w.ownsRow base 41 4 F fs.length (fldCells fs)) (hn : ∀ f ∈ fs, 1 ≤ f.1 ∧ f.1 ≤ 7) :
    ∃ A c g, F = .slice A (fs.map (·.1)).length c ∧ (0 < (fs.map (·.1)).length → A = some ⟨g, 0, none⟩) ∧ FieldsIn w g (fs.map (·.1)) := by
  rw [List.length_map]
  rcases h.2 with ⟨e, h0⟩ | ⟨g, cap, cur, e, _⟩
  · refine ⟨none, 0, 0, by rw [e, h0], fun h => by omega, fun j hj => ?_⟩
    rw [List.length_map] at hj; omega
  · refine ⟨_, cap, g, e, fun _ => rfl, fun j hj => ?_⟩
    rw [List.length_map] at hj
    obtain ⟨c0, ⟨b, c1⟩, ⟨hh, c2⟩, c3⟩ := fldCells_at fs j hj
    have hc := fun i u => h.cells (g := g) (by rw [e]; rfl) i u
    simp only [add_at] at hc
    have hb := hn (fs[j]) (List.getElem_mem _)
    have e0 : (fs.map (·.1)).getD j 0 = fs[j].1 := by simp [List.getD_eq_getElem?_getD, hj]
    exact ⟨by rw [e0]; exact hb.1, by rw [e0]; exact hb.2, b, hh, false, hc _ _ c0, hc _ _ c1, hc _ _ c2, hc _ _ c3⟩

end Go.Proofs.YtcknpgenfhlcmaaDoor
