import Derived.Test.YtcknpgenfhlcmaaDoorLayD
namespace Go.Proofs.YtcknpgenfhlcmaaDoor
open Go.RowKit

def alS (n at_ : Int) : Int := (at_ + wdT n - 1) / wdT n * wdT n
def layS : List Int → Int → List (Int × Int × Int)
  | [], _ => []
  | n :: r, a => (alS n a / 64, alS n a % 64, wdT n) :: layS r (alS n a + wdT n)
def endS : List Int → Int → Int
  | [], a => a
  | n :: r, a => endS r (alS n a + wdT n)
def slotCells (l : List (Int × Int × Int)) : List Value := l.flatMap fun s => [.int .i64 s.1, .int .i64 s.2.1, .int .i64 s.2.2]

def FieldsIn (w : World) (g : Nat) (ns : List Int) : Prop :=
  ∀ j, j < ns.length → 1 ≤ ns.getD j 0 ∧ ns.getD j 0 ≤ 7 ∧ ∃ b h mt, w.cell? ⟨g, j * 4, none⟩ = some (.int .i64 (ns.getD j 0)) ∧ w.cell? ⟨g, j * 4 + 1, none⟩ = some (.bool b) ∧ w.cell? ⟨g, j * 4 + 2, none⟩ = some (.int .i64 h) ∧ w.cell? ⟨g, j * 4 + 3, none⟩ = some (.bool mt)
theorem wdT_in (n : Int) (h1 : 1 ≤ n) (h7 : n ≤ 7) : wdT n = 8 ∨ wdT n = 16 ∨ wdT n = 32 ∨ wdT n = 64 := by
  have : n = 1 ∨ n = 2 ∨ n = 3 ∨ n = 4 ∨ n = 5 ∨ n = 6 ∨ n = 7 := by omega
  rcases this with rfl | rfl | rfl | rfl | rfl | rfl | rfl <;> decide

theorem own_below {w w1 : World} {base : Nat} {e : TypeId} {size n : Nat} {v : Value} {xs : List Value} (h : w.ownsRow base e size v n xs) (hb : Below w.heap.size w w1) : w1.ownsRow base e size v n xs :=
  h.kept (grownBy_below (row := none) hb) (by cases v.ownBlock <;> simp)
theorem i64_and63 (x : Int) (h0 : 0 ≤ x) (h1 : x < 1000000) : bits .and .i64 x 63 = x % 64 :=
  bits_mask .i64 63 (by decide) (fun n h0 h1 => IntWalk.i64_in n (by omega)) 6 (by decide) x h0 (by omega)
theorem info48 : (Tryd.prog.info? 48).map (fun i => (i.zero, i.size, i.bytes)) = some (some (.agg #[.int .i64 0, .int .i64 0, .int .i64 0]), 3, 24) := by kernel_rfl
theorem alS_bd (n a : Int) (h1 : 1 ≤ n) (h7 : n ≤ 7) (_ha : 0 ≤ a) : a ≤ alS n a ∧ alS n a + wdT n ≤ a + 128 ∧ 8 ≤ wdT n ∧ wdT n ≤ 64 := by
  unfold alS
  rcases wdT_in n h1 h7 with h | h | h | h <;> rw [h] <;> omega
theorem lay_step (ns : List Int) (k : Nat) (a : Int) (hk : k < ns.length) : layS (ns.drop k) a = (alS (ns.getD k 0) a / 64, alS (ns.getD k 0) a % 64, wdT (ns.getD k 0)) :: layS (ns.drop (k + 1)) (alS (ns.getD k 0) a + wdT (ns.getD k 0)) ∧ endS (ns.drop k) a = endS (ns.drop (k + 1)) (alS (ns.getD k 0) a + wdT (ns.getD k 0)) := by
  rw [List.drop_eq_getElem_cons hk, List.getD_eq_getElem?_getD, List.getElem?_eq_getElem hk]
  exact ⟨rfl, rfl⟩
theorem slotCells_append (l m : List (Int × Int × Int)) : slotCells (l ++ m) = slotCells l ++ slotCells m := by simp [slotCells]

theorem cells_new (w : World) (cs : List Value) (T : TypeId) : ∀ (j : Nat) (u : Value), cs[j]? = some u → (w.alloc (.cells cs.toArray T)).cell? ((⟨w.heap.size, 0, none⟩ : Addr).add j) = some u := by
  intro j u h
  have e : (⟨w.heap.size, 0, none⟩ : Addr).add j = ⟨w.heap.size, j, none⟩ := by unfold Addr.add; split <;> simp_all
  rw [e, World.cell?_alloc_at (hn := rfl)]
  simpa using h
theorem one_ints (l : List Value) (h : l.all Value.oneCell' = true) : ∀ u ∈ l, u.oneCell' = true := fun u hu => List.all_eq_true.1 h u hu

set_option maxRecDepth 100000 in
set_option maxHeartbeats 1600000 in
theorem layout_any (w : World) (fi : Bool) (su pa re : Value) (A : Option Addr) (c g : Nat) (ns : List Int) (hA : 0 < ns.length → A = some ⟨g, 0, none⟩) (hF : FieldsIn w g ns) (hn : ns.length ≤ 100) (hsu : ∃ a n c, su = .slice a n c) (hpa : ∃ a n c, pa = .slice a n c) (hre : ∃ a n c, re = .slice a n c) :
    Calls Tryd.prog 9 #[.agg #[.bool fi, su, .int .i64 2, pa, re, .slice A ns.length c]] w fun e w' => ∃ v, e = .returned (.tuple #[v, .int .i64 (1 + (endS ns 0 + 63) / 64), .int .i64 0]) ∧ w'.ownsRow w.heap.size 48 3 v ns.length (slotCells (layS ns 0)) ∧ Below w.heap.size w w' := by
  obtain ⟨_, _, _, rfl⟩ := hsu
  obtain ⟨_, _, _, rfl⟩ := hpa
  obtain ⟨_, _, _, rfl⟩ := hre
  obtain ⟨m, hm⟩ : ∃ m, ns.length = m := ⟨_, rfl⟩
  rw [hm] at hA hn ⊢
  have HM := Lib.hid hm
  have HF := Lib.hid hF
  have HA := Lib.hid hA
  clear hm hF hA
  obtain ⟨i0, hi, hz0, hz1, hz2⟩ := info_parts info48
  have HI := Lib.hid hi
  clear hi
  go_enter Tryd.func9, Tryd.ntmps9
  go_wp2
  go_loopw [5, 6, 18] (fun v s6 s18 wr => ∃ (k : Nat) (a : Int) (L : List (Int × Int × Int)), k ≤ m ∧ s18 = .int .i64 k ∧ s6 = .int .i64 a ∧ 0 ≤ a ∧ a ≤ 128 * k ∧ Hid (layS ns 0 = L ++ layS (ns.drop k) a) ∧ Hid (endS ns 0 = endS (ns.drop k) a) ∧ Hid (wr.ownsRow w.heap.size 48 3 v k (slotCells L)) ∧ Hid (Below w.heap.size w wr) ∧ w.heap.size ≤ wr.heap.size)
    (fun _ _ s18 _ => m - (intOf s18).toNat)
  case atStart => exact ⟨0, 0, [], by omega, rfl, rfl, by omega, by omega, rfl, rfl, World.ownsRow_nil _ _ _ _, (Below.refl _ _).alloc (Nat.le_refl _) _, by simp⟩
  case round =>
    obtain ⟨k, a, L, hk, rfl, rfl, ha0, ha1, hl, he, ho, hb, hsz⟩ := hrel
    by_cases hlt : k < m
    · have hAe := HA.out (by omega)
      subst hAe
      obtain ⟨q1, q7, fb, fh, fm, e0, e1, e2, e3⟩ := HF.out k (by rw [HM.out]; exact hlt)
      obtain ⟨s1, s2⟩ := lay_step ns k a (by rw [HM.out]; exact hlt)
      obtain ⟨r1, r2, r3, r4⟩ := alS_bd (ns.getD k 0) a q1 q7 ha0
      have hgl : g < w.heap.size := World.block_lt_of_cell? _ _ e0
      have e0 := (hb.out.cell (p := ⟨g, _, none⟩) hgl).trans e0
      have e1 := (hb.out.cell (p := ⟨g, _, none⟩) hgl).trans e1
      have e2 := (hb.out.cell (p := ⟨g, _, none⟩) hgl).trans e2
      have e3 := (hb.out.cell (p := ⟨g, _, none⟩) hgl).trans e3
      obtain ⟨n, hn⟩ : ∃ n, ns.getD k 0 = n := ⟨_, rfl⟩
      rw [hn] at e0 s1 s2 r1 r2 r3 r4 q1 q7
      have S1 := Lib.hid s1
      have S2 := Lib.hid s2
      have ha12 : a ≤ 12800 := by omega
      have hA1 := Lib.hid ha1
      clear s1 s2 hn ha1
      have hal : alS n a = (a + wdT n - 1) / wdT n * wdT n := rfl
      have HAL := Lib.hid hal
      clear hal
      have hp0 : 0 ≤ (a + wdT n - 1) / wdT n * wdT n := by show 0 ≤ alS n a; omega
      have hp1 : (a + wdT n - 1) / wdT n * wdT n ≤ 13000 := by show alS n a ≤ 13000; omega
      have h63 := i64_and63 ((a + wdT n - 1) / wdT n * wdT n) hp0 (by omega)
      have HO := Lib.hid ho.out
      clear ho r1 r2
      go_wp2_with (first
        | (go_at_call 61; refine (width_any _ _ _ _ (by omega) (by omega)).mono ?_; rintro e w1 ⟨rfl, hb1⟩)
        | (at_builtin; refine wpList_append_own _ rfl (.tmp 35) (.tmp 42) 42 rfl w.heap.size 48 i0 (.agg #[.int .i64 0, .int .i64 0, .int .i64 0]) 3 24 Tryd.underlying42 HI.out hz0 hz1 hz2 rfl (by decide) _ k (slotCells L) rfl ?c0 ⟨w1.heap.size, 0, none⟩ 1 1 [.int .i64 ((a + wdT n - 1) / wdT n * wdT n / 64), .int .i64 ((a + wdT n - 1) / wdT n * wdT n % 64), .int .i64 (wdT n)] rfl rfl ?c1 ?c2 ?c3 ?c4 ?c5 ?_))
      case c0 => exact (own_below (HO.out.alloc _) hb1).alloc _
      case c1 => exact cells_new _ _ _
      case c2 => exact one_ints _ rfl
      case c3 => unfold maxLen; omega
      case c4 => omega
      case c5 => have := hb1.size; simp at this ⊢; omega
      · intro v' w' ho2 hg2 _
        have hb2 : Below w.heap.size w w' := by
          have h1 : Below w.heap.size w w1 := (hb.out.alloc hsz _).trans (hb1.mono (by simp; omega))
          refine (h1.alloc (by have := hb1.size; simp at this; omega) _).grown hg2 (by have := hb1.size; simp at this ⊢; omega) ?_
          intro q hq
          exact (HO.out.lt q hq).1
        have hsz2 := hb2.size
        have HB2 := Lib.hid hb2
        have HO2 := Lib.hid ho2
        clear hb2 ho2 hg2 hb1
        go_wp2
        go_roundw
        case rel =>
          refine ⟨k + 1, alS n a + wdT n, L ++ [(alS n a / 64, alS n a % 64, wdT n)], by omega, by go_num, rfl, ?_, ?_, ?_, ?_, ?_, HB2.out, hsz2⟩
          · have : 0 ≤ alS n a := by rw [HAL.out]; exact hp0
            omega
          · have := alS_bd n a q1 q7 ha0
            have := hA1.out
            omega
          · show _ = _
            rw [hl.out, S1.out]; simp
          · show _ = _
            rw [he.out, S2.out]
          · show World.ownsRow _ _ _ _ _ _ _
            rw [slotCells_append]
            exact HO2.out
        case measure => simp [intOf]; omega
    · obtain rfl : k = m := by omega
      go_wp2
      go_ret3
      have hnil : ns.drop k = [] := List.drop_eq_nil_of_le (by rw [HM.out]; omega)
      have he2 : endS ns 0 = a := by have := he.out; rw [hnil] at this; exact this
      rw [he2]
      refine ⟨_, rfl, ?_, hb.out⟩
      have := hl.out
      rw [hnil] at this
      rw [this]
      simpa [layS] using ho.out

end Go.Proofs.YtcknpgenfhlcmaaDoor
