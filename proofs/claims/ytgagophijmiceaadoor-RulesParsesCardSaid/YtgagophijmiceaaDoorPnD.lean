/- WALK: the document's edenref1.Shape, At; edenref3.Fault, bit, Becomes. -/
import Derived.Test.YtgagophijmiceaaDoorPnK
import Derived.Test.YtgagophijmiceaaDoorPnK
namespace Go.Proofs.YtgagophijmiceaaDoor
set_option linter.unusedSimpArgs false
set_option linter.unusedVariables false
open Go.RowKit
namespace Pn
open Tld Mem Bl

theorem any_or {zs : List Int} {p : Int → Bool} {n : Nat} (hz : zs.length = n) (h : ∀ k, k < n → p (zs.getD k 0) = false) : zs.any p = false := any_no fun k hk => h k (by omega)
set_option maxHeartbeats 4000000 in
theorem shape_any (W H : Int) (a : Option Addr) (n c : Nat) (zs : List Int) (w : World) (hT : Ints.Is w a n zs) :
    Calls Tryd.prog 16 #[.agg #[.int .i64 W, .int .i64 H, .slice a n c]] w fun e w' => e = .returned (.int .i64 (pfault W H zs)) ∧ Below w.heap.size w w' := by
  have hle := hT.le
  unfold maxLen at hle
  obtain ⟨hR, hB⟩ : Row (w.alloc (.cells #[.int .i64 W, .int .i64 H, .slice a n c] 35)) w.heap.size 35 (boxP W H a n c) ∧ Below w.heap.size w (w.alloc (.cells #[.int .i64 W, .int .i64 H, .slice a n c] 35)) := ⟨row_alloc w _ _, (Below.refl _ _).alloc (Nat.le_refl _) _⟩
  have HZ := Lib.hid (hT.cells.keep hB)
  have HL := Lib.hid hT.len
  have HB := Lib.hid hB
  have f0 := hR.cell 0
  have f1 := hR.cell 1
  have f2 := hR.cell 2
  unfold boxP at f0 f1 f2
  dsimp only [List.getElem?_cons_succ, List.getElem?_cons_zero] at f0 f1 f2
  clear hT hR hB
  by_cases hs : okSides W H
  · obtain ⟨h1, h2, h3, h4⟩ := hs
    have hp0 : 0 ≤ W * H := Int.mul_nonneg h1 h3
    have hp1 : W * H ≤ 100 * 100 := Int.mul_le_mul h2 h4 h3 (by omega)
    by_cases hn : (n : Int) = W * H
    · have HP : Hid (pfault W H zs = if zs.any cbad = true then 1 else 0) := by
        show pfault W H zs = _
        unfold pfault; rw [if_neg (by simp; exact ⟨h1, h2, h3, h4⟩), if_neg (by simp [HL.out, hn])]
      have hwr : IntKind.i64.wrap (W * H) = (n : Int) := by rw [IntKind.wrap_i64]; omega
      have HNL := Lib.hid hn
      clear hn hp0 hp1
      go_enter Tryd.func16, Tryd.ntmps16
      go_wp2_with fail
      generalize w.alloc (.cells #[.int .i64 W, .int .i64 H, .slice a n c] 35) = w1 at *
      go_loop [3] (fun v => ∃ i : Nat, i ≤ n ∧ v = .int .i64 i ∧ (∀ k, k < i → cbad (zs.getD k 0) = false)) (fun v => n - (intOf v).toNat)
      case atStart => exact ⟨0, Nat.zero_le _, rfl, fun k hk => absurd hk (Nat.not_lt_zero _)⟩
      case round =>
        obtain ⟨i, hi, rfl, hok⟩ := hrel
        have HOK := Lib.hid hok
        clear hok
        by_cases hlt : i < n
        · obtain ⟨b, off, rfl, _, hc⟩ := HZ.out i hlt
          dsimp only at hc
          by_cases hb : cbad (zs.getD i 0) = true
          · have HF : Hid (pfault W H zs = 1) := by
              show pfault W H zs = 1
              rw [HP.out, if_pos (any_yes (k := i) (by rw [HL.out]; exact hlt) hb)]
            unfold cbad at hb
            have hb' := of_decide_eq_true hb
            clear hb
            generalize zs.getD i 0 = z at *
            have hb2 : z < 0 ∨ 1 < z := by omega
            clear hb'
            rcases hb2 with h | h
            · go_wp2_with fail
              go_ret
              exact ⟨congrArg (fun z => Ending.returned (.int .i64 z)) HF.out.symm, HB.out⟩
            · go_wp2_with fail
              go_ret
              exact ⟨congrArg (fun z => Ending.returned (.int .i64 z)) HF.out.symm, HB.out⟩
          · have hb1 := Bool.eq_false_iff.2 hb
            have HN : Hid (∀ k, k < i + 1 → cbad (zs.getD k 0) = false) := fun k hk => by
              by_cases hki : k = i
              · rw [hki]; exact hb1
              · exact HOK.out k (by omega)
            unfold cbad at hb1
            have hb' := of_decide_eq_false hb1
            clear hb hb1
            generalize zs.getD i 0 = z at *
            have hz1 : ¬ z < 0 := by omega
            have hz2 : ¬ 1 < z := by omega
            clear hb'
            go_wp2_with fail
            go_round
            case rel => exact ⟨i + 1, by omega, by go_num, HN.out⟩
            case measure => simp [intOf]; omega
        · have HF : Hid (pfault W H zs = 0) := by
            show pfault W H zs = 0
            rw [HP.out, if_neg (by rw [any_or HL.out fun k hk => HOK.out k (by omega)]; simp)]
          go_wp2_with fail
          go_ret
          exact ⟨congrArg (fun z => Ending.returned (.int .i64 z)) HF.out.symm, HB.out⟩
    · have HF : Hid (pfault W H zs = 3) := by
        show pfault W H zs = _
        unfold pfault; rw [if_neg (by simp; exact ⟨h1, h2, h3, h4⟩), if_pos (by rw [HL.out]; exact hn)]
      have hwr : IntKind.i64.wrap (W * H) = W * H := by rw [IntKind.wrap_i64]; omega
      have hne : ((n : Int) != W * H) = true := by rw [bne_iff_ne]; exact hn
      go_enter Tryd.func16, Tryd.ntmps16
      go_wp2_with fail
      go_ret
      exact ⟨congrArg (fun z => Ending.returned (.int .i64 z)) HF.out.symm, HB.out⟩
  · have HF : Hid (pfault W H zs = 1) := by
      show pfault W H zs = 1
      unfold pfault; rw [if_pos hs]
    have hd : W < 0 ∨ (0 ≤ W ∧ 100 < W) ∨ (0 ≤ W ∧ W ≤ 100 ∧ H < 0) ∨ (0 ≤ W ∧ W ≤ 100 ∧ 0 ≤ H ∧ 100 < H) := by unfold okSides at hs; omega
    rcases hd with h1 | ⟨h1, h2⟩ | ⟨h1, h2, h3⟩ | ⟨h1, h2, h3, h4⟩
    all_goals
      go_enter Tryd.func16, Tryd.ntmps16
      go_wp2_with fail
      go_ret
      exact ⟨congrArg (fun z => Ending.returned (.int .i64 z)) HF.out.symm, HB.out⟩
set_option maxHeartbeats 4000000 in
set_option maxRecDepth 1000000 in
theorem at_any (W H : Nat) (a : Option Addr) (n c : Nat) (f : Nat → Nat → Nat) (x y : Int) (w : World) (hZ : Ints.Is w a n (flat W H f)) (hn : n = W * H) (hW : W ≤ 200) (hH : H ≤ 200) :
    Calls Tryd.prog 54 #[.agg #[.int .i64 W, .int .i64 H, .slice a n c], .int .i64 x, .int .i64 y] w fun e w' => e = .returned (.int .i64 (ext W H f x y : Nat)) ∧ Below w.heap.size w w' := by
  have HZ := Lib.hid (fun w2 (h : Below w.heap.size w w2) => hZ.keep h)
  have hn2 : n ≤ 40000 := by rw [hn]; exact Nat.mul_le_mul hW hH
  have HN := Lib.hid hn
  clear hZ hn
  go_enter Tryd.func54, Tryd.ntmps54
  go_upto_region 1 with fail
  have HR0 : Row (w.alloc (.cells #[.int .i64 W, .int .i64 H, .slice a n c] 35)) w.heap.size 35 (boxP W H a n c) := row_alloc w _ _
  have HBw : Below w.heap.size w (w.alloc (.cells #[.int .i64 W, .int .i64 H, .slice a n c] 35)) := (Below.refl _ _).alloc (Nat.le_refl _) _
  generalize w.alloc (.cells #[.int .i64 W, .int .i64 H, .slice a n c] 35) = w1 at *
  have f0 := HR0.cell 0
  have f1 := HR0.cell 1
  have f2 := HR0.cell 2
  unfold boxP at f0 f1 f2
  dsimp only [List.getElem?_cons_succ, List.getElem?_cons_zero] at f0 f1 f2
  have HB := Lib.hid HBw
  clear HR0 HBw
  by_cases hin : (0 ≤ x ∧ x < W) ∧ 0 ≤ y ∧ y < H
  · obtain ⟨⟨hx0, hx1⟩, hy0, hy1⟩ := hin
    obtain ⟨i, rfl⟩ := Int.eq_ofNat_of_zero_le hx0
    obtain ⟨j, rfl⟩ := Int.eq_ofNat_of_zero_le hy0
    have hiW : i < W := by omega
    have hjH : j < H := by omega
    have HE : Hid (ext W H f (i : Int) (j : Int) = f i j) := Lib.hid (ext_at hiW hjH)
    have hk := at_lt hiW hjH
    rw [← HN.out] at hk
    obtain ⟨ab, ao, rfl, _, cg⟩ := (HZ.out w1 HB.out).cells (j * W + i) hk
    dsimp only at cg
    rw [flat_at hiW hjH] at cg
    obtain ⟨q, hq⟩ : ∃ q, q = j * W := ⟨_, rfl⟩
    obtain ⟨k, hke⟩ : ∃ k, k = j * W + i := ⟨_, rfl⟩
    rw [← hke] at hk cg
    have e1 : (j : Int) * (W : Int) = (q : Int) := by rw [hq]; push_cast; rfl
    have e2 : (q : Int) + (i : Int) = (k : Int) := by omega
    have hki : (k : Int) < (n : Int) := by omega
    have hq4 : q ≤ 1000000 := by omega
    have hk4 : k ≤ 1000000 := by omega
    have a1 : wrap64 ((j : Int) * (W : Int)) = (q : Int) := wr_nat e1 hq4
    have a2 : wrap64 ((q : Int) + (i : Int)) = (k : Int) := wr_nat e2 hk4
    have a1' := wr_same a1
    have a2' := wr_same a2
    have d1 : ¬ (i : Int) < 0 := by clear a1 a2 a1' a2'; omega
    have d2 : ¬ (W : Int) ≤ (i : Int) := by clear a1 a2 a1' a2'; omega
    have d3 : ¬ (j : Int) < 0 := by clear a1 a2 a1' a2'; omega
    have d4 : ¬ (H : Int) ≤ (j : Int) := by clear a1 a2 a1' a2'; omega
    generalize f i j = v at *
    clear hq hke e1 e2 hx0 hx1 hy0 hy1
    go_wp2_with fail
    first | (go_ret; exact ⟨by rw [HE.out]; rfl, HB.out⟩) | (go_big_quiet (fail); go_wp2_with fail; go_ret; exact ⟨by rw [HE.out]; rfl, HB.out.trans ⟨rfl, rfl, rfl, Nat.le_refl _, fun _ _ => rfl⟩⟩)
  · have HE : Hid (ext W H f x y = 0) := Lib.hid (if_neg hin)
    have hd : x < 0 ∨ (¬ x < 0 ∧ (W : Int) ≤ x) ∨ (¬ x < 0 ∧ ¬ (W : Int) ≤ x ∧ y < 0) ∨ (¬ x < 0 ∧ ¬ (W : Int) ≤ x ∧ ¬ y < 0 ∧ (H : Int) ≤ y) := by omega
    clear hin
    rcases hd with h1 | ⟨h1, h2⟩ | ⟨h1, h2, h3⟩ | ⟨h1, h2, h3, h4⟩
    all_goals
      go_wp2_with fail
      go_ret
      exact ⟨by rw [HE.out]; rfl, HB.out⟩
end Pn
end Go.Proofs.YtgagophijmiceaaDoor
