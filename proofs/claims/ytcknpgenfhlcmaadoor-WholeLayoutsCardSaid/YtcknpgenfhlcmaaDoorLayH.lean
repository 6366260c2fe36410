import Derived.Test.YtcknpgenfhlcmaaDoorLayG
import Derived.Deep.DeepCutAuto
namespace Go.Proofs.YtcknpgenfhlcmaaDoor
open Go.RowKit

theorem fieldsIn_below {w w' : World} {g : Nat} {ns : List Int} (h : FieldsIn w g ns) (hb : Below w.heap.size w w') : FieldsIn w' g ns := by
  intro j hj
  obtain ⟨q1, q7, b, hh, mt, e0, e1, e2, e3⟩ := h j hj
  have hgl : g < w.heap.size := World.block_lt_of_cell? _ _ e0
  exact ⟨q1, q7, b, hh, mt, (hb.cell (p := ⟨g, _, none⟩) hgl).trans e0, (hb.cell (p := ⟨g, _, none⟩) hgl).trans e1, (hb.cell (p := ⟨g, _, none⟩) hgl).trans e2, (hb.cell (p := ⟨g, _, none⟩) hgl).trans e3⟩
theorem slotCells_at : ∀ (l : List (Int × Int × Int)) (j : Nat), j < l.length → (slotCells l)[j * 3]? = some (.int .i64 (l.getD j default).1) ∧ (slotCells l)[j * 3 + 1]? = some (.int .i64 (l.getD j default).2.1) ∧ (slotCells l)[j * 3 + 2]? = some (.int .i64 (l.getD j default).2.2)
  | [], j, h => by simp at h
  | f :: fs, 0, _ => ⟨rfl, rfl, rfl⟩
  | f :: fs, j + 1, h => by
    have ih := slotCells_at fs j (by simpa using h)
    have e : ∀ i, (slotCells (f :: fs))[(j + 1) * 3 + i]? = (slotCells fs)[j * 3 + i]? := by
      intro i
      show ([_, _, _] ++ slotCells fs)[(j + 1) * 3 + i]? = _
      rw [List.getElem?_append_right (by simp; omega)]
      congr 1
      simp; omega
    have e0 := e 0
    simp only [Nat.add_zero] at e0
    rw [e0, e 1, e 2]
    simpa using ih
theorem slotCells_length : ∀ l : List (Int × Int × Int), (slotCells l).length = l.length * 3
  | [] => rfl
  | f :: r => by
    show ([_, _, _] ++ slotCells r).length = _
    rw [List.length_append, slotCells_length r]
    simp; omega
theorem layS_length : ∀ (ns : List Int) (a : Int), (layS ns a).length = ns.length
  | [], _ => rfl
  | n :: r, a => by simp [layS, layS_length r]
theorem getD_of_drop {α : Type} [Inhabited α] {l r : List α} {k : Nat} {x : α} (h : l.drop k = x :: r) : l.getD k default = x := by
  have : l[k]? = some x := by rw [← List.head?_drop, h]; rfl
  simp [List.getD_eq_getElem?_getD, this]
theorem al_prop (a al wd : Int) (hw : wd = 8 ∨ wd = 16 ∨ wd = 32 ∨ wd = 64) (h : al = (a + wd - 1) / wd * wd) : (∀ x, a ≤ x → x < al → x % wd ≠ 0) ∧ al % wd = 0 := by
  subst h
  rcases hw with rfl | rfl | rfl | rfl <;> exact ⟨fun x h1 h2 => by omega, by omega⟩
def mkW (w : World) (tn fh : Int) (fb fm : Bool) : World := (((w.alloc (.cells #[.int .i64 tn, .bool fb, .int .i64 fh, .bool fm] 41)).alloc (.cells #[.int .i64 tn, .bool fb, .int .i64 fh] 38)).alloc (.cells #[.int .i64 tn, .bool fb, .int .i64 fh, .bool fm] 41)).alloc (.cells #[.bool false, .slice none 0 0, .int .i64 3, .slice none 0 0, .slice none 0 0, .slice (some ⟨w.heap.size + 1 + 1, 0, none⟩) 1 1] 35)
theorem mkW_facts (w wc : World) (tn fh : Int) (fb fm : Bool) (h : wc = mkW w tn fh fb fm) : wc.heap[w.heap.size]? = some (.cells #[.int .i64 tn, .bool fb, .int .i64 fh, .bool fm] 41 (0, 0)) ∧ wc.heap[w.heap.size + 1 + 1]? = some (.cells #[.int .i64 tn, .bool fb, .int .i64 fh, .bool fm] 41 (0, 0)) ∧
    wc.heap[w.heap.size + 1 + 1 + 1]? = some (.cells #[.bool false, .slice none 0 0, .int .i64 3, .slice none 0 0, .slice none 0 0, .slice (some ⟨w.heap.size + 1 + 1, 0, none⟩) 1 1] 35 (0, 0)) ∧ Below w.heap.size w wc ∧ wc.heap.size = w.heap.size + 1 + 1 + 1 + 1 := by
  subst h
  refine ⟨?_, ?_, ?_, by unfold mkW; go_grown, by simp [mkW]⟩
  · unfold mkW
    rw [heap_alloc_old' (by simp; omega), heap_alloc_old' (by simp; omega), heap_alloc_old' (by simp)]
    exact heap_alloc_new' w _
  · unfold mkW
    rw [heap_alloc_old' (by simp)]
    have := heap_alloc_new' ((w.alloc (.cells #[.int .i64 tn, .bool fb, .int .i64 fh, .bool fm] 41)).alloc (.cells #[.int .i64 tn, .bool fb, .int .i64 fh] 38)) (.cells #[.int .i64 tn, .bool fb, .int .i64 fh, .bool fm] 41)
    simp only [World.size_alloc] at this
    exact this
  · have := heap_alloc_new' (((w.alloc (.cells #[.int .i64 tn, .bool fb, .int .i64 fh, .bool fm] 41)).alloc (.cells #[.int .i64 tn, .bool fb, .int .i64 fh] 38)).alloc (.cells #[.int .i64 tn, .bool fb, .int .i64 fh, .bool fm] 41)) (.cells #[.bool false, .slice none 0 0, .int .i64 3, .slice none 0 0, .slice none 0 0, .slice (some ⟨w.heap.size + 1 + 1, 0, none⟩) 1 1] 35)
    simp only [World.size_alloc] at this
    exact this
theorem cell_keep {w w' : World} {b o : Nat} {v : Value} (h : w.cell? ⟨b, o, none⟩ = some v) (hb : Below w.heap.size w w') : w'.cell? ⟨b, o, none⟩ = some v := (hb.cell (p := ⟨b, o, none⟩) (World.block_lt_of_cell? _ _ h)).trans h
theorem below_keep {w W W' : World} (h : Hid (Below w.heap.size w W)) (hb : Below W.heap.size W W') : Hid (Below w.heap.size w W') := h.out.trans (hb.mono h.out.size)
theorem drop_succ_of {α : Type} {l r : List α} {k : Nat} {x : α} (h : l.drop k = x :: r) : l.drop (k + 1) = r := by
  rw [← List.drop_drop, h]; rfl
theorem q_bd (N per q : Int) (h0 : 0 ≤ N) (h1 : N ≤ 18446744073709551615) (hp : 1 ≤ per) (hq : q = N / per + (if 0 < N % per then 1 else 0)) : 0 ≤ q ∧ q ≤ 18446744073709551615 ∧ 0 ≤ N / per := by
  have hd := Int.ediv_nonneg h0 (show 0 ≤ per by omega)
  have hle := Int.ediv_le_self per h0
  have hm := Int.emod_add_mul_ediv N per
  refine ⟨by rw [hq]; split <;> omega, ?_, hd⟩
  rw [hq]
  split
  · rename_i hr
    by_cases e : per = 1
    · subst e
      rw [Int.emod_one] at hr
      omega
    · have : N / per * 1 ≤ per * (N / per) := by
        rw [Int.mul_one]
        have := Int.mul_le_mul_of_nonneg_right hp hd
        omega
      have h2 : 2 * (N / per) ≤ per * (N / per) := Int.mul_le_mul_of_nonneg_right (show 2 ≤ per by omega) hd
      omega
  · omega
/-- A slot's cells, as plain laying has them. -/
def SlotsIn (w : World) (g : Nat) (l : List (Int × Int × Int)) : Prop :=
  ∀ j, j < l.length → w.cell? ⟨g, j * 3, none⟩ = some (.int .i64 (l.getD j default).1) ∧ w.cell? ⟨g, j * 3 + 1, none⟩ = some (.int .i64 (l.getD j default).2.1) ∧ w.cell? ⟨g, j * 3 + 2, none⟩ = some (.int .i64 (l.getD j default).2.2)
theorem slots_of_own {w : World} {base : Nat} {F : Value} {l : List (Int × Int × Int)} {n : Nat} (h : w.ownsRow base 48 3 F n (slotCells l)) :
    ∃ A c g, F = .slice A n c ∧ (0 < n → A = some ⟨g, 0, none⟩) ∧ SlotsIn w g l := by
  rcases h.2 with ⟨e, h0⟩ | ⟨g, cap, cur, e, _⟩
  · refine ⟨none, 0, 0, by rw [e, h0], fun h => by omega, fun j hj => ?_⟩
    have h1 := h.1
    have := slotCells_length l
    omega
  · refine ⟨_, cap, g, e, fun _ => rfl, fun j hj => ?_⟩
    obtain ⟨c0, c1, c2⟩ := slotCells_at l j hj
    have hc := fun i u => h.cells (g := g) (by rw [e]; rfl) i u
    simp only [add_at] at hc
    exact ⟨hc _ _ c0, hc _ _ c1, hc _ _ c2⟩

set_option maxRecDepth 100000 in
set_option maxHeartbeats 4000000 in
theorem law_any (w : World) (A : Option Addr) (n c : Nat) (xs : List Int) (N op va vb vn : Int) (htab : Lib.TabIs Tryd.prog w "strings.asciiSpace" .u8 Lib.asciiSpaceTab) (hB : BytesIn w A n xs) (hnc : n ≤ c) (hn : n ≤ 9223372036854775807)
    (hN0 : 0 ≤ N) (hN1 : N ≤ 18446744073709551615) (ho : 0 ≤ op ∧ op ≤ 255) (ha : 0 ≤ va ∧ va ≤ 255) (hb : 0 ≤ vb ∧ vb ≤ 255) (hv : 0 ≤ vn ∧ vn ≤ 18446744073709551615) :
    Calls Tryd.prog 3 #[.slice A n c, .int .u64 N, .agg #[.int .u8 op, .int .u8 va, .int .u8 vb, .int .u64 vn]] w fun e w' => e = .returned (.bool true) ∧ Below w.heap.size w w' := by
  have HB := Lib.hid hB
  have HT := Lib.hid htab
  have HN1 := Lib.hid hN1
  have HV := Lib.hid hv
  clear hB htab hN1 hv
  obtain ⟨i0, hi, hz0, hz1, hz2⟩ := info_parts info41
  have HI := Lib.hid hi
  clear hi
  go_enter Tryd.func3, Tryd.ntmps3
  go_wp2_with fail
  obtain ⟨W0, hW0⟩ : ∃ W0 : World, W0 = (((w.alloc (.cells #[.int .u8 op, .int .u8 va, .int .u8 vb, .int .u64 vn] 25)).alloc (.cells #[.slice A (min (n : Int) 40).toNat c, .int .i64 0] 28)).alloc (.cells #[.bool false, .slice none 0 0, .int .i64 2, .slice none 0 0, .slice none 0 0, .slice none 0 0] 35)) := ⟨_, rfl⟩
  rw [← hW0]
  have D0 : Drawn w.heap.size w W0 op va vb vn (.slice none 0 0) [] := by
    subst hW0
    have hbel : Below w.heap.size w (((w.alloc (.cells #[.int .u8 op, .int .u8 va, .int .u8 vb, .int .u64 vn] 25)).alloc (.cells #[.slice A (min (n : Int) 40).toNat c, .int .i64 0] 28)).alloc (.cells #[.bool false, .slice none 0 0, .int .i64 2, .slice none 0 0, .slice none 0 0, .slice none 0 0] 35)) := by go_grown
    refine ⟨⟨by omega, by simp, ?_⟩, ?_, ?_, World.ownsRow_nil _ _ _ _, by simp, hbel, by simp⟩
    · refine ⟨A, (min (n : Int) 40).toNat, c, 0, xs.take (min n 40), ?_, by omega, by omega, ?_, ?_, ?_⟩
      · rw [heap_alloc_old' (by simp)]
        simpa using heap_alloc_new' (w.alloc (.cells #[.int .u8 op, .int .u8 va, .int .u8 vb, .int .u64 vn] 25)) (.cells #[.slice A (min (n : Int) 40).toNat c, .int .i64 0] 28)
      · have := HB.out.1
        simp; omega
      · exact fun x hx => HB.out.2.1 x (List.mem_of_mem_take hx)
      · intro h0
        obtain ⟨ad, e, hl, hc⟩ := HB.out.2.2 (by omega)
        refine ⟨ad, e, by omega, by omega, fun j hj => ?_⟩
        rw [World.cell?_of_block (w := w) (by rw [add_block]; exact hbel.block _ hl), hc j (by omega)]
        congr 2
        simp only [List.getD_eq_getElem?_getD, List.getElem?_take]
        rw [if_pos (by omega)]
    · rw [heap_alloc_old' (by simp; omega), heap_alloc_old' (by simp)]
      exact heap_alloc_new' w _
    · have := heap_alloc_new' ((w.alloc (.cells #[.int .u8 op, .int .u8 va, .int .u8 vb, .int .u64 vn] 25)).alloc (.cells #[.slice A (min (n : Int) 40).toNat c, .int .i64 0] 28)) (.cells #[.bool false, .slice none 0 0, .int .i64 2, .slice none 0 0, .slice none 0 0, .slice none 0 0] 35)
      simp only [World.size_alloc] at this
      exact this
  clear hW0 
  have hsz0 := D0.size
  refine (next_any _ _ _ D0.reel).mono ?_
  rintro e w1 ⟨x, hx0, hx1, rfl, hR1, hg1⟩
  have D1 : Drawn w.heap.size w w1 op va vb vn (.slice none 0 0) [] := by
    refine ⟨hR1, (hg1.block _ (by omega) (by simp)).trans D0.v, (hg1.block _ (by omega) (by simp)).trans D0.s, World.ownsRow_nil _ _ _ _, by simp, ?_, Nat.le_trans hsz0 hg1.size⟩
    exact ⟨hg1.os.trans D0.below.os, hg1.tape.trans D0.below.tape, hg1.output.trans D0.below.output, Nat.le_trans D0.below.size hg1.size, fun k hk => (hg1.block k (by omega) (fun e => by have := Option.some.inj e; omega)).trans (D0.below.block k hk)⟩
  have H1 := Lib.hid D1
  clear D1 D0 hR1 hg1 hsz0
  have hx12 : 0 ≤ x % 13 ∧ x % 13 < 13 := by omega
  obtain ⟨cnt, hcnt⟩ : ∃ cnt : Nat, (cnt : Int) = x % 13 := ⟨(x % 13).toNat, by omega⟩
  have hcnt12 : cnt ≤ 12 := by omega
  have HX := Lib.hid hcnt
  clear hcnt hx12
  go_wp2_with fail
  rw [← HX.out]
  go_loopw [42] (fun s42 wr => ∃ (k : Nat) (F : Value) (fs : List (Int × Bool × Int)), k ≤ cnt ∧ s42 = .int .i64 k ∧ fs.length = k ∧ Hid (Drawn w.heap.size w wr op va vb vn F fs))
    (fun s42 _ => cnt - (intOf s42).toNat)
  case atStart => exact ⟨0, _, [], by omega, rfl, rfl, H1.out⟩
  case round =>
    obtain ⟨k, F, fs, hk, rfl, hfl, HD⟩ := hrel
    by_cases hlt : k < cnt
    · have g5 := cell_of_heap (i := 5) HD.out.s rfl
      have f5 := free_of_heap (i := 5) HD.out.s
      have hFs : ∃ a n c, F = .slice a n c := by
        rcases HD.out.own.2 with ⟨e, _⟩ | ⟨g, cap, cur, e, _⟩
        · exact ⟨_, _, _, e⟩
        · exact ⟨_, _, _, e⟩
      have hRd := Lib.hid HD.out.reel.drew
      have hown := HD.out.own
      have hbase := HD.out.size
      have hown2 := Lib.hid hown
      clear hown
      go_wp2_with fail
      go_region_law
        (first
          | (go_simp; go_at_call 8; refine (valued_any _ _ _ hRd.out).mono ?_; rintro e w2 ⟨nn, hp, bb, hn1, hn7, rfl, hR2, hg2⟩
             have s2 := Lib.hid ((hg2.block (w.heap.size + 1 + 1) (by simp; omega) (by simp)).trans HD.out.s)
             have k1 := cell_of_heap (i := 5) s2.out rfl
             have k2 := free_of_heap (i := 5) s2.out
             have own2 := Lib.hid (hown2.out.drew.kept hg2 (.inr (fun e => by have := hown2.out.lt _ e; omega)))
             have hzz2 : w.heap.size + 1 + 1 < w2.heap.size := by have := hg2.size; simp at this; omega
             have G2 := Lib.hid hg2
             have RR2 := Lib.hid hR2
             clear hg2 hR2)
          | (refine step_append_lies _ (by rfl) _ _ _ (by rfl) (w.heap.size + 3) 41 i0 _ 4 32 Tryd.underlying30 HI.out hz0 hz1 hz2 rfl (by omega) F fs.length (fldCells fs) (by rfl) (own2.out.alloc _)
              ⟨w2.heap.size, 0, none⟩ 1 1 [.int .i64 nn, .bool bb, .int .i64 hp, .bool false] (by rfl) (by rfl) (World.news_of_block (cs := #[.int .i64 nn, .bool bb, .int .i64 hp, .bool false]) (t := 41) (fr := (0, 0)) (heap_alloc_new w2 _)) (one_ints _ rfl)
              (by omega) (by unfold maxLen; omega) (by omega) (by simp; omega) (w2.heap.size + 1) (by simp) ?_; intro gg cap w3 own3 grow3 hat3 hlt3
             have s3 := Lib.hid ((grow3.block (w.heap.size + 1 + 1) (by simp; omega) (fun e => by have := own2.out.lt _ e.symm; omega)).trans ((heap_alloc_old' hzz2).trans s2.out))
             have k3 := cell_of_heap (i := 5) s3.out rfl
             have k4 := free_of_heap (i := 5) s3.out
             have O3 := Lib.hid own3
             have G3 := Lib.hid grow3
             clear own3 grow3))
      all_goals
        have DS := Lib.hid (drawn_step HD.out hn1 hn7 G2.out RR2.out O3.out G3.out)
        rw [hfl] at DS
        go_wp2
        go_roundw
        case rel => exact ⟨k + 1, _, fs ++ [(nn, bb, hp)], by omega, by go_num, by simp [hfl], DS.out⟩
        case measure => simp [intOf]; omega
    · obtain rfl : k = cnt := by omega
      obtain ⟨FA, fc, fg, hFe, hFA, hFF⟩ := fields_of_own HD.out.own HD.out.nums
      subst hFe
      have hsz := HD.out.size
      obtain ⟨c0, c1, c2, c3, c4, c5⟩ : _ ∧ _ ∧ _ ∧ _ ∧ _ ∧ _ := ⟨cell_of_heap (i := 0) HD.out.s rfl, cell_of_heap (i := 1) HD.out.s rfl, cell_of_heap (i := 2) HD.out.s rfl, cell_of_heap (i := 3) HD.out.s rfl, cell_of_heap (i := 4) HD.out.s rfl, cell_of_heap (i := 5) HD.out.s rfl⟩
      have HFF := Lib.hid hFF
      have HFA := Lib.hid hFA
      obtain ⟨ns, hns⟩ : ∃ ns, fs.map (·.1) = ns := ⟨_, rfl⟩
      have hnl : ns.length ≤ 100 := by rw [← hns, List.length_map]; omega
      rw [hns] at HFF HFA HD c5
      have HNS := Lib.hid hns
      clear hFF hFA hns
      go_wp2_with fail
      refine (layout_any _ false _ _ _ FA fc fg ns HFA.out HFF.out hnl ⟨_, _, _, rfl⟩ ⟨_, _, _, rfl⟩ ⟨_, _, _, rfl⟩).mono ?_
      rintro e w5 ⟨lv, rfl, hlo, hlb⟩
      have hl5 := hlb.size
      have b5v := Lib.hid ((hlb.block w.heap.size (by omega)).trans HD.out.v)
      have b5s := Lib.hid ((hlb.block (w.heap.size + 1 + 1) (by omega)).trans HD.out.s)
      have c5' := cell_of_heap (i := 5) b5s.out rfl
      have hbel5 := Lib.hid (HD.out.below.trans (hlb.mono (by omega)))
      have HFF5 : Hid (FieldsIn w5 fg ns) := fieldsIn_below HFF.out hlb
      obtain ⟨LA, lc, lg, hlv, hLA, hLC⟩ := slots_of_own hlo
      subst hlv
      have HLA := Lib.hid hLA
      have HLC := Lib.hid hLC
      clear hLA hLC hlo hlb c0 c1 c2 c3 c4 c5 HFF HD
      obtain ⟨m, hm⟩ : ∃ m, ns.length = m := ⟨_, rfl⟩
      have HM := Lib.hid hm
      rw [hm] at b5s c5' HLA HFA hnl ⊢
      clear hm
      go_wp2_with fail
      go_loopw [9, 76] (fun s9 s76 wl => ∃ (k : Nat) (a : Int), k ≤ m ∧ s76 = .int .i64 k ∧ s9 = .int .i64 a ∧ 0 ≤ a ∧ a ≤ 128 * k ∧ Hid (layS (ns.drop k) a = (layS ns 0).drop k) ∧ Hid (endS (ns.drop k) a = endS ns 0) ∧ Hid (Below w5.heap.size w5 wl) ∧ w5.heap.size ≤ wl.heap.size)
        (fun _ s76 _ => m - (intOf s76).toNat)
      case atStart => exact ⟨0, 0, by omega, rfl, rfl, by omega, by omega, rfl, rfl, Below.refl _ _, Nat.le_refl _⟩
      case round =>
        obtain ⟨k, a, hk, rfl, rfl, ha0, ha1, hl, he, hbl, hsl⟩ := hrel
        by_cases hlt : k < m
        · have hFe := HFA.out (by omega)
          subst hFe
          have hLe := HLA.out (by omega)
          subst hLe
          obtain ⟨q1, q7, fb, fh, fm, e0, e1, e2, e3⟩ := fieldsIn_below HFF5.out hbl.out k (by rw [HM.out]; exact hlt)
          have hSL := HLC.out k (by rw [layS_length, HM.out]; exact hlt)
          obtain ⟨s1, s2⟩ := lay_step ns k a (by rw [HM.out]; exact hlt)
          have hsl0 : (layS ns 0).getD k default = (alS (ns.getD k 0) a / 64, alS (ns.getD k 0) a % 64, wdT (ns.getD k 0)) := getD_of_drop (hl.out.symm.trans s1)
          rw [hsl0] at hSL
          obtain ⟨t0, t1, t2⟩ := hSL
          have hlgl : lg < w5.heap.size := World.block_lt_of_cell? _ _ t0
          have t0 := (hbl.out.cell (p := ⟨lg, _, none⟩) hlgl).trans t0
          have t1 := (hbl.out.cell (p := ⟨lg, _, none⟩) hlgl).trans t1
          have t2 := (hbl.out.cell (p := ⟨lg, _, none⟩) hlgl).trans t2
          have bv := (hbl.out.block w.heap.size (by omega)).trans b5v.out
          have v0 := cell_of_heap (i := 0) bv rfl
          have v1 := cell_of_heap (i := 1) bv rfl
          have v2 := cell_of_heap (i := 2) bv rfl
          have v3 := cell_of_heap (i := 3) bv rfl
          obtain ⟨r1, r2, r3, r4⟩ := alS_bd (ns.getD k 0) a q1 q7 ha0
          have hwi := wdT_in (ns.getD k 0) q1 q7
          obtain ⟨tn, htn⟩ : ∃ tn, ns.getD k 0 = tn := ⟨_, rfl⟩
          rw [htn] at q1 q7 e0 s1 s2 t0 t1 t2 r1 r2 r3 r4 hwi
          have S1 := Lib.hid (hl.out.symm.trans s1)
          have S2 := Lib.hid (he.out.symm.trans s2)
          obtain ⟨wd, hwd⟩ : ∃ wd, wdT tn = wd := ⟨_, rfl⟩
          obtain ⟨al, hal⟩ : ∃ al, alS tn a = al := ⟨_, rfl⟩
          have hal2 : al = (a + wd - 1) / wd * wd := by rw [← hal, ← hwd]; rfl
          rw [hwd] at t2 r2 r3 r4 S1 S2 hwi
          rw [hal] at t0 t1 r1 r2 S1 S2
          have HAL := Lib.hid hal2
          have HWD := Lib.hid hwd
          have HWI := Lib.hid hwi
          have ha12 : a ≤ 12800 := by omega
          have HA1 := Lib.hid ha1
          have lgs : lg < wr.heap.size := by omega
          have lg1 : lg < wr.heap.size + 1 := by omega
          have lg2 : lg < wr.heap.size + 1 + 1 := by omega
          have Ns : w.heap.size < wr.heap.size := by omega
          have N1 : w.heap.size < wr.heap.size + 1 := by omega
          have N2 : w.heap.size < wr.heap.size + 1 + 1 := by omega
          have N3 : w.heap.size < wr.heap.size + 1 + 1 + 1 := by omega
          have N4 : w.heap.size < wr.heap.size + 1 + 1 + 1 + 1 := by omega
          clear s1 s2 hsl0 bv hwd hal hal2 hwi htn hl he ha1
          go_wp2_with (go_at_call 10; refine (bitsOf_any _ _ _ _ (by omega) (by omega)).mono ?_; rintro e w6 ⟨rfl, rfl⟩; rw [HWD.out])
          have hal3 := al_prop a al wd HWI.out HAL.out
          have HAP := Lib.hid hal3
          clear hal3
          go_loop [9] (fun s9 => ∃ x : Int, a ≤ x ∧ x ≤ al ∧ s9 = .int .i64 x) (fun s9 => (al - intOf s9).toNat)
          case atStart => exact ⟨a, by omega, r1, rfl⟩
          case round =>
            obtain ⟨y, hy0, hy1, rfl⟩ := hrel
            by_cases hya : y < al
            · have hm1 := HAP.out.1 y hy0 hya
              have hm2 : ((y % wd == 0) = false) := by simpa using hm1
              have hm3 : ((y % wd != 0) = true) := by simpa using hm1
              clear hm1
              go_wp2
              go_round
              case rel => exact ⟨y + 1, by omega, by omega, rfl⟩
              case measure => simp [intOf]; omega
            · obtain rfl : y = al := by omega
              have hm1 : y % wd = 0 := HAP.out.2
              have HE := Lib.hid hm1
              have hm3 : ((y % wd != 0) = false) := by simpa using hm1
              clear hm1
              obtain ⟨per, hper⟩ : ∃ per : Int, 64 / wd = per := ⟨_, rfl⟩
              have hp8 : 1 ≤ per ∧ per ≤ 8 := by rcases HWI.out with h | h | h | h <;> rw [← hper, h] <;> decide
              obtain ⟨hp1, hp8⟩ := hp8
              have hpw : IntKind.u64.wrap (64 / wd) = per := by rw [hper]; exact IntWalk.u64_in _ (by omega)
              have hpw2 : 64 / wd = per := hper
              have hN1 := HN1.out
              obtain ⟨q, hq⟩ : ∃ q : Int, N / per + (if 0 < N % per then 1 else 0) = q := ⟨_, rfl⟩
              have hqb := q_bd N per q hN0 hN1 hp1 hq.symm
              obtain ⟨hq0, hq1, hd0⟩ := hqb
              have HQ := Lib.hid hq
              have HPW := Lib.hid hpw2
              clear hq hper hpw2
              go_upto_if 117 with fail
              go_cut [18] (fun s18 wc => s18 = .int .u64 q ∧ Hid (wc = mkW wr tn fh fb fm))
              case first =>
                by_cases hr : 0 < N % per
                · have hqe : N / per + 1 = q := by rw [← HQ.out, if_pos hr]
                  have HQE := Lib.hid hqe
                  have hq2 : N / per + 1 ≤ 18446744073709551615 := by omega
                  clear hqe
                  go_wp2_with fail
                  go_meet
                  exact ⟨by rw [← HQE.out], rfl⟩
                · have hqe : N / per = q := by rw [← HQ.out, if_neg hr]; omega
                  have HQE := Lib.hid hqe
                  have hr2 : N % per ≤ 0 := by omega
                  clear hqe hr
                  go_wp2_with fail
                  go_meet
                  exact ⟨by rw [← HQE.out], rfl⟩
              case rest =>
                obtain ⟨rfl, hwc⟩ := hcut
                obtain ⟨g0, g2, g3, gb, gs⟩ := mkW_facts wr wc tn fh fb fm hwc.out
                clear hwc
                have a0 := cell_of_heap (i := 0) g0 rfl
                have a1 := cell_of_heap (i := 1) g0 rfl
                have a2 := cell_of_heap (i := 2) g0 rfl
                have a3 := cell_of_heap (i := 3) g0 rfl
                obtain ⟨d0, d1, d2, d3, d4, d5⟩ : _ ∧ _ ∧ _ ∧ _ ∧ _ ∧ _ := ⟨cell_of_heap (i := 0) g3 rfl, cell_of_heap (i := 1) g3 rfl, cell_of_heap (i := 2) g3 rfl, cell_of_heap (i := 3) g3 rfl, cell_of_heap (i := 4) g3 rfl, cell_of_heap (i := 5) g3 rfl⟩
                have k0 := cell_of_heap (i := 0) g2 rfl
                have k1 := cell_of_heap (i := 1) g2 rfl
                have k2 := cell_of_heap (i := 2) g2 rfl
                have k3 := cell_of_heap (i := 3) g2 rfl
                have HW8 := Lib.hid (words_arr wc false fb fm (.slice none 0 0) (.slice none 0 0) (.slice none 0 0) (wr.heap.size + 1 + 1) 1 tn fh N q1 q7 k0 k1 k2 k3 hN0 hN1 ⟨_, _, _, rfl⟩ ⟨_, _, _, rfl⟩ ⟨_, _, _, rfl⟩)
                have hws : wordsS (64 / wdT tn) N = if q = 18446744073709551615 then 18446744073709551615 else 1 + q := by
                  rw [HWD.out, HPW.out]; unfold wordsS; rw [HQ.out]
                have GB := Lib.hid gb
                have G0 := Lib.hid g0
                clear k0 k1 k2 k3 g2 g3 gb g0
                have vv0 := (GB.out.cell (p := ⟨w.heap.size, _, none⟩) Ns).trans v0
                have vv1 := (GB.out.cell (p := ⟨w.heap.size, _, none⟩) Ns).trans v1
                have vv2 := (GB.out.cell (p := ⟨w.heap.size, _, none⟩) Ns).trans v2
                have vv3 := (GB.out.cell (p := ⟨w.heap.size, _, none⟩) Ns).trans v3
                clear v0 v1 v2 v3
                obtain ⟨D, hD⟩ : ∃ D : Int, wordsS (64 / wdT tn) N = D := ⟨_, rfl⟩
                rw [hD] at hws HW8
                have HWS := Lib.hid hws
                have hD0 : 0 ≤ D := by rw [hws]; split <;> omega
                clear hws
                go_upto_if 123 with fail
                go_cut [18] (fun s18 wc2 => s18 = .int .u64 D ∧ Hid (wc2 = wc))
                case first =>
                  by_cases hqm : q = 18446744073709551615
                  · have hD2 : D = 18446744073709551615 := by rw [HWS.out, if_pos hqm]
                    have HD2 := Lib.hid hD2
                    have hw0 : IntKind.u64.wrap (q + 1) = 0 := by rw [hqm]; decide
                    clear hD2 hqm
                    go_wp2_with fail
                    go_meet
                    exact ⟨by rw [HD2.out], rfl⟩
                  · have hD2 : D = q + 1 := by rw [HWS.out, if_neg hqm]; omega
                    have HD2 := Lib.hid hD2
                    have hq3 : q + 1 ≤ 18446744073709551615 := by omega
                    have hw0 : IntKind.u64.wrap (q + 1) = q + 1 := IntWalk.u64_in _ (by omega)
                    have hw1 : (q + 1 == 0) = false := by simp; omega
                    clear hD2 hqm
                    go_wp2_with fail
                    go_meet
                    exact ⟨by rw [HD2.out], rfl⟩
                case rest =>
                  obtain ⟨rfl, hwc2⟩ := hcut
                  have hwe := hwc2.out
                  clear hwc2
                  subst hwe
                  obtain ⟨ho0, ho1⟩ := ho
                  obtain ⟨ha0', ha1'⟩ := ha
                  obtain ⟨hb0', hb1'⟩ := hb
                  obtain ⟨hv0, hv1⟩ := HV.out
                  go_upto_region 29 with (go_at_call 11; refine HW8.out.mono ?_; rintro e w7 ⟨rfl, hb7⟩)
                  have h7s := hb7.size
                  have u0 := (hb7.cell (p := ⟨wr.heap.size, 0, none⟩) (by show wr.heap.size < _; omega)).trans a0
                  have u1 := (hb7.cell (p := ⟨wr.heap.size, 1, none⟩) (by show wr.heap.size < _; omega)).trans a1
                  have u2 := (hb7.cell (p := ⟨wr.heap.size, 2, none⟩) (by show wr.heap.size < _; omega)).trans a2
                  have vv0 := (hb7.cell (p := ⟨w.heap.size, _, none⟩) (by show w.heap.size < _; omega)).trans vv0
                  have vv1 := (hb7.cell (p := ⟨w.heap.size, _, none⟩) (by show w.heap.size < _; omega)).trans vv1
                  have vv2 := (hb7.cell (p := ⟨w.heap.size, _, none⟩) (by show w.heap.size < _; omega)).trans vv2
                  have vv3 := (hb7.cell (p := ⟨w.heap.size, _, none⟩) (by show w.heap.size < _; omega)).trans vv3
                  have HB7 := Lib.hid hb7
                  clear hb7 a0 a1 a2 a3 d0 d1 d2 d3 d4 d5
                  go_upto_region 32 with fail
                  have had : 0 ≤ vn / 2 ^ (op % 64).toNat := Int.ediv_nonneg hv0 (Int.le_of_lt (Int.pow_pos (by decide)))
                  have y0 := cell_keep u0 (Below.alloc (Below.refl _ w7) (Nat.le_refl _) (.cells #[.int .i64 (va % 7), .int .u64 vn, .int .i64 (vb % 8 - 1), .int .u64 (vn / 2 ^ (op % 64).toNat), .bool (decide (100 < vb))] 54))
                  have y1 := cell_keep u1 (Below.alloc (Below.refl _ w7) (Nat.le_refl _) (.cells #[.int .i64 (va % 7), .int .u64 vn, .int .i64 (vb % 8 - 1), .int .u64 (vn / 2 ^ (op % 64).toNat), .bool (decide (100 < vb))] 54))
                  have y2 := cell_keep u2 (Below.alloc (Below.refl _ w7) (Nat.le_refl _) (.cells #[.int .i64 (va % 7), .int .u64 vn, .int .i64 (vb % 8 - 1), .int .u64 (vn / 2 ^ (op % 64).toNat), .bool (decide (100 < vb))] 54))
                  have hx := heap_alloc_new' w7 (.cells #[.int .i64 (va % 7), .int .u64 vn, .int .i64 (vb % 8 - 1), .int .u64 (vn / 2 ^ (op % 64).toNat), .bool (decide (100 < vb))] 54)
                  have x0 := cell_of_heap (i := 0) hx rfl
                  have x1 := cell_of_heap (i := 1) hx rfl
                  have x2 := cell_of_heap (i := 2) hx rfl
                  have x3 := cell_of_heap (i := 3) hx rfl
                  have x4 := cell_of_heap (i := 4) hx rfl
                  have BW8 : Hid (Below w5.heap.size w5 (w7.alloc (.cells #[.int .i64 (va % 7), .int .u64 vn, .int .i64 (vb % 8 - 1), .int .u64 (vn / 2 ^ (op % 64).toNat), .bool (decide (100 < vb))] 54))) :=
                    ((hbl.out.trans (GB.out.mono (by omega))).trans (HB7.out.mono (by omega))).alloc (by omega) _
                  obtain ⟨W8, hW8⟩ : ∃ W8 : World, W8 = w7.alloc (.cells #[.int .i64 (va % 7), .int .u64 vn, .int .i64 (vb % 8 - 1), .int .u64 (vn / 2 ^ (op % 64).toNat), .bool (decide (100 < vb))] 54) := ⟨_, rfl⟩
                  rw [← hW8] at y0 y1 y2 x0 x1 x2 x3 x4 BW8 ⊢
                  have BW9 : Below W8.heap.size W8 W8.drew := (Below.refl _ _).drew
                  have BW8' : Hid (Below w5.heap.size w5 W8.drew) := BW8.out.drew
                  clear hx hW8 u0 u1 u2 vv0 vv1 vv2 vv3
                  go_region_held3 (fun w' => w'.cell? ⟨wr.heap.size, 0, none⟩ = some (.int .i64 tn) ∧ w'.cell? ⟨wr.heap.size, 1, none⟩ = some (.bool fb) ∧ w'.cell? ⟨wr.heap.size, 2, none⟩ = some (.int .i64 fh) ∧ w'.cell? ⟨w7.heap.size, 0, none⟩ = some (.int .i64 (va % 7)) ∧ w'.cell? ⟨w7.heap.size, 1, none⟩ = some (.int .u64 vn) ∧ w'.cell? ⟨w7.heap.size, 2, none⟩ = some (.int .i64 (vb % 8 - 1)) ∧ w'.cell? ⟨w7.heap.size, 3, none⟩ = some (.int .u64 (vn / 2 ^ (op % 64).toNat)) ∧ w'.cell? ⟨w7.heap.size, 4, none⟩ = some (.bool (decide (100 < vb))) ∧ Hid (Below w5.heap.size w5 w'))
                    (first
                      | exact ⟨y0, y1, y2, x0, x1, x2, x3, x4, BW8'⟩
                      | assumption
                      | (go_split_ands; refine ⟨?_, ?_, ?_, ?_, ?_, ?_, ?_, ?_, ?_⟩ <;> first | exact cell_keep (by assumption) (by assumption) | exact below_keep (by assumption) (by assumption)))
                    (first
                      | (go_at_call 12; refine (fits_any _ _ _ _ _ _ _ _ _ q1 q7 had).mono ?_; rintro e w9 ⟨rfl, hb9⟩)
                      | (go_at_call 13; refine (fitting_any _ _ _ _ _ _ _ _ _ q1 q7 had).mono ?_; rintro e w9 ⟨rfl, hb9⟩))
                  rename_i hAll
                  obtain ⟨_, _, _, _, _, _, _, _, BF⟩ := hAll
                  have hA1 := HA1.out
                  have hBs := BF.out.size
                  clear BW8 BW8' BW9 y0 y1 y2 x0 x1 x2 x3 x4
                  go_wp2
                  go_roundw
                  case rel => exact ⟨k + 1, y + wd, by omega, by go_num, rfl, by omega, by omega, (drop_succ_of S1.out).symm, S2.out.symm, BF, hBs⟩
                  case measure => simp [intOf]; omega
        · obtain rfl : k = m := by omega
          have bs := (hbl.out.block (w.heap.size + 1 + 1) (by omega)).trans b5s.out
          obtain ⟨c0, c1, c2, c3, c4, c5⟩ : _ ∧ _ ∧ _ ∧ _ ∧ _ ∧ _ := ⟨cell_of_heap (i := 0) bs rfl, cell_of_heap (i := 1) bs rfl, cell_of_heap (i := 2) bs rfl, cell_of_heap (i := 3) bs rfl, cell_of_heap (i := 4) bs rfl, cell_of_heap (i := 5) bs rfl⟩
          clear bs
          have hE : endS ns 0 = a := by
            rw [← he.out, List.drop_eq_nil_of_le (by rw [HM.out]; omega)]
            rfl
          have HE := Lib.hid hE
          rw [hE]
          clear hE
          have HW := Lib.hid (words_struct wr N false (.slice none 0 0) (.slice none 0 0) (.slice none 0 0) FA fc fg ns (by rw [HM.out]; exact HFA.out) (fieldsIn_below HFF5.out hbl.out) (by rw [HM.out]; exact hnl) ⟨_, _, _, rfl⟩ ⟨_, _, _, rfl⟩ ⟨_, _, _, rfl⟩ (by rw [HE.out]; exact ha0) (by rw [HE.out]; omega))
          rw [HE.out, HM.out] at HW
          have HB0 := Lib.hid (hbel5.out.trans (hbl.out.mono (by omega)))
          have HT0 := Lib.hid (tab_below ((Below.mono HB0.out (Nat.le_refl _))) HT.out)
          have ha2 : a ≤ 12800 := by omega
          clear ha1
          go_wp2_with fail
          refine HW.out.mono ?_
          rintro e w6 ⟨rfl, hb6⟩
          have HB6 := Lib.hid (HB0.out.trans (hb6.mono HB0.out.size))
          clear hb6 c0 c1 c2 c3 c4 c5
          go_wp2_with fail
          refine (layout_bad _ 3 false _ _ _ _ (.inr rfl) ⟨_, _, _, rfl⟩ ⟨_, _, _, rfl⟩ ⟨_, _, _, rfl⟩ ⟨_, _, _, rfl⟩).mono ?_
          rintro e w7 ⟨rfl, hb7⟩
          have HB7 := Lib.hid ((HB6.out.alloc HB6.out.size _).trans (hb7.mono (by have := HB6.out.size; simp; omega)))
          clear hb7
          go_wp2_with fail
          refine (words_none _ N false _ _ _ _ ⟨_, _, _, rfl⟩ ⟨_, _, _, rfl⟩ ⟨_, _, _, rfl⟩ ⟨_, _, _, rfl⟩).mono ?_
          rintro e w8 ⟨rfl, hb8⟩
          have HB8 := Lib.hid (HB7.out.trans (hb8.mono HB7.out.size))
          have HT8 := Lib.hid (tab_below HB8.out HT.out)
          clear hb8
          go_wp2_with (go_at_call 14; refine (reckons_any _ HT8.out).mono ?_; rintro e w9 ⟨rfl, hb9⟩)
          go_ret
          exact ⟨rfl, HB8.out.trans (hb9.mono HB8.out.size)⟩

end Go.Proofs.YtcknpgenfhlcmaaDoor
