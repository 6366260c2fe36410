import Derived.Test.YtcknpgenfhlcmaaDoorProg
import Derived.Test.YtcknpgenfhlcmaaDoorShelf
import Derived.WalkKit
import Derived.WalkSpells
import Derived.WalkLawsBesides
import Derived.Deep.QuietTactic
import Derived.BigQuiet
import Derived.Lib.Hide
namespace Go.Proofs.YtcknpgenfhlcmaaDoor
open Go.RowKit

/-- The groups of operators: where each begins, whether of 64 bits, its words. -/
def grs : List (Int × Bool × List UInt8) := [(69, false, [101, 113, 122, 32, 101, 113, 32, 110, 101, 32, 108, 116, 95, 115, 32, 108, 116, 95, 117, 32, 103, 116, 95, 115, 32, 103, 116, 95, 117, 32, 108, 101, 95, 115, 32, 108, 101, 95, 117, 32, 103, 101, 95, 115, 32, 103, 101, 95, 117]), (80, true, [101, 113, 122, 32, 101, 113, 32, 110, 101, 32, 108, 116, 95, 115, 32, 108, 116, 95, 117, 32, 103, 116, 95, 115, 32, 103, 116, 95, 117, 32, 108, 101, 95, 115, 32, 108, 101, 95, 117, 32, 103, 101, 95, 115, 32, 103, 101, 95, 117]), (103, false, [99, 108, 122, 32, 99, 116, 122, 32, 112, 111, 112, 99, 110, 116, 32, 97, 100, 100, 32, 115, 117, 98, 32, 109, 117, 108, 32, 100, 105, 118, 95, 115, 32, 100, 105, 118, 95, 117, 32, 114, 101, 109, 95, 115, 32, 114, 101, 109, 95, 117, 32, 97, 110, 100, 32, 111, 114, 32, 120, 111, 114, 32, 115, 104, 108, 32, 115, 104, 114, 95, 115, 32, 115, 104, 114, 95, 117, 32, 114, 111, 116, 108, 32, 114, 111, 116, 114]), (121, true, [99, 108, 122, 32, 99, 116, 122, 32, 112, 111, 112, 99, 110, 116, 32, 97, 100, 100, 32, 115, 117, 98, 32, 109, 117, 108, 32, 100, 105, 118, 95, 115, 32, 100, 105, 118, 95, 117, 32, 114, 101, 109, 95, 115, 32, 114, 101, 109, 95, 117, 32, 97, 110, 100, 32, 111, 114, 32, 120, 111, 114, 32, 115, 104, 108, 32, 115, 104, 114, 95, 115, 32, 115, 104, 114, 95, 117, 32, 114, 111, 116, 108, 32, 114, 111, 116, 114]), (167, true, [119, 114, 97, 112, 95, 105, 54, 52]), (172, false, [101, 120, 116, 101, 110, 100, 95, 105, 51, 50, 95, 115, 32, 101, 120, 116, 101, 110, 100, 95, 105, 51, 50, 95, 117]), (192, false, [101, 120, 116, 101, 110, 100, 56, 95, 115, 32, 101, 120, 116, 101, 110, 100, 49, 54, 95, 115]), (194, true, [101, 120, 116, 101, 110, 100, 56, 95, 115, 32, 101, 120, 116, 101, 110, 100, 49, 54, 95, 115, 32, 101, 120, 116, 101, 110, 100, 51, 50, 95, 115])]
def grCells : Array Value := (grs.flatMap fun g => [Value.int .i64 g.1, .bool g.2.1, .string ⟨g.2.2.toArray⟩]).toArray

set_option maxRecDepth 100000 in
set_option maxHeartbeats 400000 in
theorem groups_any (w : World) :
    Calls Tryd.prog 104 #[] w fun e w' => e = .returned (.slice (some ⟨w.heap.size, 0, none⟩) 8 8) ∧ w' = w.alloc (.cells grCells 166) := by
  go_enter Tryd.func104, Tryd.ntmps104
  go_wp2
  go_ret
  exact ⟨rfl, rfl⟩

def wordsOf (g : Int × Bool × List UInt8) : List (List UInt8) := Lib.fields g.2.2
def findIn : List (Int × Bool × List UInt8) → Int → List UInt8 × Bool
  | [], _ => ([], false)
  | g :: r, op => if g.1 ≤ op ∧ op < g.1 + (wordsOf g).length then ((wordsOf g).getD (op - g.1).toNat [], g.2.1) else findIn r op

theorem gr_cell (k : Nat) (h : k < 8) : grCells[k * 3]? = some (.int .i64 (grs.getD k default).1) ∧ grCells[k * 3 + 1]? = some (.bool (grs.getD k default).2.1) ∧ grCells[k * 3 + 2]? = some (.string ⟨(grs.getD k default).2.2.toArray⟩) := by
  match k, h with
  | 0, _ => exact ⟨rfl, rfl, rfl⟩
  | 1, _ => exact ⟨rfl, rfl, rfl⟩
  | 2, _ => exact ⟨rfl, rfl, rfl⟩
  | 3, _ => exact ⟨rfl, rfl, rfl⟩
  | 4, _ => exact ⟨rfl, rfl, rfl⟩
  | 5, _ => exact ⟨rfl, rfl, rfl⟩
  | 6, _ => exact ⟨rfl, rfl, rfl⟩
  | 7, _ => exact ⟨rfl, rfl, rfl⟩


theorem grs_len : grs.length = 8 := rfl
theorem names_ok : ∀ k, k < 8 → ∀ (j : Nat) b, (grs.getD k default).2.2[j]? = some b → b.toNat < 128 := by
  intro k hk j b hb
  have : ∀ g ∈ grs, ∀ b ∈ g.2.2, b.toNat < 128 := by decide +kernel
  refine this (grs.getD k default) ?_ b (List.mem_of_getElem? hb)
  rw [List.getD_eq_getElem?_getD, List.getElem?_eq_getElem (by rw [grs_len]; omega)]
  exact List.getElem_mem _
theorem words_len : ∀ k, k < 8 → (wordsOf (grs.getD k default)).length ≤ 18 ∧ 69 ≤ (grs.getD k default).1 ∧ (grs.getD k default).1 ≤ 194 ∧ (grs.getD k default).2.2.length ≤ 200 := by
  have : ∀ k : Fin 8, (wordsOf (grs.getD k.val default)).length ≤ 18 ∧ 69 ≤ (grs.getD k.val default).1 ∧ (grs.getD k.val default).1 ≤ 194 ∧ (grs.getD k.val default).2.2.length ≤ 200 := by decide +kernel
  intro k hk
  exact this ⟨k, hk⟩
theorem find_step (op : Int) (k : Nat) (hk : k < 8) : findIn (grs.drop k) op = if (grs.getD k default).1 ≤ op ∧ op < (grs.getD k default).1 + (wordsOf (grs.getD k default)).length then ((wordsOf (grs.getD k default)).getD (op - (grs.getD k default).1).toNat [], (grs.getD k default).2.1) else findIn (grs.drop (k + 1)) op := by
  have e : grs.drop k = grs.getD k default :: grs.drop (k + 1) := by
    rw [List.drop_eq_getElem_cons (by rw [grs_len]; omega)]
    rw [List.getD_eq_getElem?_getD, List.getElem?_eq_getElem (by rw [grs_len]; omega)]
    rfl
  rw [e]
  rfl

theorem pw_below_drewN' {B : Nat} {w W : World} (h : Below B w W) (n : Nat) : Below B w (W.drewN n) := ⟨h.os, h.tape, h.output, h.size, h.block⟩
theorem tab_below {w w' : World} (hb : Below w.heap.size w w') (h : Lib.TabIs Tryd.prog w "strings.asciiSpace" .u8 Lib.asciiSpaceTab) : Lib.TabIs Tryd.prog w' "strings.asciiSpace" .u8 Lib.asciiSpaceTab := by
  have hg : Tryd.prog.globalNamed "strings.asciiSpace" = some 3 := by kernel_rfl
  have hc := h.cell hg 0 (by rw [Lib.asciiSpaceTab_length]; decide)
  exact var?_below hb hg (World.block_lt_of_cell? _ _ hc) h

set_option maxRecDepth 100000 in
set_option maxHeartbeats 1600000 in
theorem find_any (op : Int) (w : World) (htab : Lib.TabIs Tryd.prog w "strings.asciiSpace" .u8 Lib.asciiSpaceTab) (h0 : 0 ≤ op) (h1 : op ≤ 1000) :
    Calls Tryd.prog 94 #[.int .i64 op] w fun e w' => e = .returned (.tuple #[.string ⟨(findIn grs op).1.toArray⟩, .bool (findIn grs op).2]) ∧ Below w.heap.size w w' := by
  go_enter Tryd.func94, Tryd.ntmps94
  go_wp2_with (go_at_call 104; refine (groups_any _).mono ?_; rintro e w' ⟨rfl, rfl⟩)
  go_loopw [9] (fun i wr => ∃ k : Nat, k ≤ 8 ∧ i = .int .i64 k ∧ Hid (findIn (grs.drop k) op = findIn grs op) ∧ Hid (wr.heap[w.heap.size]? = some (.cells grCells 166 (0, 0))) ∧ Hid (Below w.heap.size w wr) ∧ w.heap.size < wr.heap.size)
    (fun i _ => 8 - (intOf i).toNat)
  case atStart => exact ⟨0, by omega, rfl, rfl, by show (w.heap.push _)[_]? = _; simp, (Below.refl _ _).alloc (Nat.le_refl _) _, by simp⟩
  case round =>
    obtain ⟨k, hk, rfl, hf, hG, hb, hsz⟩ := hrel
    by_cases hlt : k < 8
    · obtain ⟨hw1, hw2, hw3, hw4⟩ := words_len k hlt
      obtain ⟨c1, c2, c3⟩ := gr_cell k hlt
      have d1 : wr.cell? ⟨w.heap.size, k * 3, none⟩ = some (.int .i64 (grs.getD k default).1) := by simp only [World.cell?, hG.out]; exact c1
      have d2 : wr.cell? ⟨w.heap.size, k * 3 + 1, none⟩ = some (.bool (grs.getD k default).2.1) := by simp only [World.cell?, hG.out]; exact c2
      have d3 : wr.cell? ⟨w.heap.size, k * 3 + 2, none⟩ = some (.string ⟨(grs.getD k default).2.2.toArray⟩) := by simp only [World.cell?, hG.out]; exact c3
      clear c1 c2 c3
      have hfs := Lib.hid (find_step op k hlt)
      have hno := Lib.hid (names_ok k hlt)
      obtain ⟨g, hg⟩ : ∃ g, g = grs.getD k default := ⟨_, rfl⟩
      rw [← hg] at d1 d2 d3 hfs hno hw1 hw2 hw3 hw4
      have HG := Lib.hid hg
      clear hg
      obtain ⟨gf, gw, gn⟩ := g
      simp only at d1 d2 d3 hw1 hw2 hw3 hw4
      have htab3 := Lib.hid (tab_below hb.out htab)
      clear htab
      have hwl : (Lib.fields gn).length ≤ 18 := hw1
      clear hw1
      by_cases hin : gf ≤ op ∧ op < gf + (Lib.fields gn).length
      · obtain ⟨j, rfl⟩ : ∃ j : Nat, op = gf + j := ⟨(op - gf).toNat, by omega⟩
        have hj : j < (Lib.fields gn).length := by omega
        have hwj : IntKind.i64.wrap (gf + (j : Int) - gf) = (j : Int) := by rw [show gf + (j : Int) - gf = j from by omega]; exact IntWalk.i64_in _ (by omega)
        have hcl : ∀ W : World, (W.alloc (Obj.cells (List.map (fun l => Value.string { data := l.toArray }) (Lib.fields gn)).toArray 9)).cell? ⟨W.heap.size, j, none⟩ = some (.string ⟨((Lib.fields gn).getD j []).toArray⟩) := by
          intro W
          refine (World.cell?_alloc_at (hn := rfl) ..).trans ?_
          simp [hj]
        clear hin
        go_wp2_with (go_at_call 105; refine (Tryd.strings_Fields ⟨gn.toArray⟩ _ ?s1 ?s2 ?s3).mono ?_; rotate_right; rintro e w' ⟨rfl, rfl⟩)
        case s1 => show gn.toArray.size < _; simp; omega
        case s2 => simpa using hno.out
        case s3 => exact tab_below ((Below.refl _ _).alloc (Nat.le_refl _) _) htab3.out
        have hfin : findIn grs (gf + (j : Int)) = ((Lib.fields gn).getD j [], gw) := by
          rw [← hf.out, hfs.out, if_pos ⟨by show gf ≤ _; omega, by show _ < gf + ((Lib.fields gn).length : Int); omega⟩]
          rw [show (gf + (j : Int) - (gf, gw, gn).1).toNat = j from by show (gf + (j : Int) - gf).toNat = j; omega]
          rfl
        have hfin' := Lib.hid hfin
        clear hfin
        go_quiet (fail)
        go_wp2
        go_ret2
        refine ⟨?_, ?_⟩
        · rw [hfin'.out]
          show Ending.returned (.tuple #[.string ⟨((Lib.fields gn)[j]).toArray⟩, .bool gw]) = _
          simp [hj]
        exact pw_below_drewN' ((hb.out.alloc (Nat.le_of_lt hsz) _).alloc (by simp; omega) _) _
      · have hfn : Hid (findIn (grs.drop (k + 1)) op = findIn grs op) := by
          show _ = _
          rw [← hf.out, hfs.out, if_neg (by show ¬ (gf ≤ op ∧ op < gf + ((Lib.fields gn).length : Int)); exact hin)]
        have hG' := fun (W : World) (h : Below wr.heap.size wr W) => h.block w.heap.size hsz
        have HG' := Lib.hid hG'
        clear hG' hfs hf
        rcases Int.lt_or_le op gf with hin' | hin'
        all_goals
          (try have hin2 : gf + (Lib.fields gn).length ≤ op := by omega)
          clear hin
          go_wp2_with (go_at_call 105; refine (Tryd.strings_Fields ⟨gn.toArray⟩ _ ?_ ?_ ?_).mono ?_; rotate_right; rintro e w' ⟨rfl, rfl⟩)
          all_goals first
            | (show gn.toArray.size < _; simp; omega)
            | (simpa using hno.out)
            | exact tab_below ((Below.refl _ _).alloc (Nat.le_refl _) _) htab3.out
            | (go_roundw
               case rel => exact ⟨k + 1, by omega, by go_num, hfn, ((HG'.out _ (((Below.refl _ _).alloc (Nat.le_refl _) _).alloc (by simp) _)).trans hG.out), (hb.out.alloc (Nat.le_of_lt hsz) _).alloc (by simp; omega) _, by simp; omega⟩
               case measure => simp [intOf]; omega)
    · obtain rfl : k = 8 := by omega
      go_wp2
      go_ret2
      exact ⟨by rw [← hf.out]; rfl, hb.out⟩

end Go.Proofs.YtcknpgenfhlcmaaDoor
