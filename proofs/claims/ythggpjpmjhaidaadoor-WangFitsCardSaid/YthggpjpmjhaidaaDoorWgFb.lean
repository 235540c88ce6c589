/- WALK: wang.Fits, what is wrong, whatever the number of cells. -/
import Derived.Test.YthggpjpmjhaidaaDoorWgFt
namespace Go.Proofs.YthggpjpmjhaidaaDoor
set_option linter.unusedSimpArgs false
set_option linter.unusedVariables false
open Go.RowKit Go.Lib
namespace Wg
open Tld Mem

set_option maxHeartbeats 4000000 in
set_option maxRecDepth 1000000 in
/-- What is wrong is told. -/
theorem fits_bad2 (a : Option Addr) (n c : Nat) (ts : List Tl) (W H : Int) (sa : Option Addr) (sn sc : Nat) (zs : List Int) (ring : Bool) (w : World) (hT : Tiles w a n ts)
    (hsn : zs.length = sn) (hZ : Cells w sa sn (fun i => .int .i64 (zs.getD i 0))) (f : Int) (hf : f = if zfault ts [W, H] ≠ 0 then zfault ts [W, H] else cfault n (W * H) zs) (hf0 : f ≠ 0) :
    Calls Tryd.prog 25 #[.slice a n c, .int .i64 W, .int .i64 H, .slice sa sn sc, .bool ring] w fun e w' => e = .returned (.tuple #[.bool false, .iface 68 (.int .i64 f)]) ∧ Below w.heap.size w w' := by
  have HCK : Hid (∀ w2 : World, Tiles w2 a n ts → ∀ (b sc2 : Nat), Row w2 b 3 [.int .i64 W, .int .i64 H] → Calls Tryd.prog 35 #[.slice a n c, .slice (some ⟨b, 0, none⟩) 2 sc2] w2 fun e w' => e = .returned (errV (zfault ts [W, H])) ∧ Below w2.heap.size w2 w') := fun w2 h2 b sc2 hR =>
    check_any a n c ts (some ⟨b, 0, none⟩) 2 sc2 [W, H] w2 h2 rfl (by omega) (fun i hi => ⟨b, 0, rfl, hR.lt, by
      rw [Nat.zero_add, hR.cell]
      match i, hi with
      | 0, _ => rfl
      | 1, _ => rfl⟩)
  have HT := Lib.hid hT
  have HZ := Lib.hid hZ
  clear hT hZ
  go_enter Tryd.func25, Tryd.ntmps25
  go_wp2_with fail
  have hT0 : Row (w.alloc (.cells #[.slice a n c] 22)) w.heap.size 22 [.slice a n c] := row_alloc w _ _
  have hB0 : Below w.heap.size w ((w.alloc (.cells #[.slice a n c] 22)).alloc (.cells #[.int .i64 W, .int .i64 H] 3)) := ((Below.refl _ _).alloc (Nat.le_refl _) _).alloc (by simp) _
  have hR0 := row_alloc (w.alloc (.cells #[.slice a n c] 22)) 3 [.int .i64 W, .int .i64 H]
  rw [World.size_alloc] at hR0
  have hT1 := hT0.keep (B := (w.alloc (.cells #[.slice a n c] 22)).heap.size) ((Below.refl _ _).alloc (Nat.le_refl _) (.cells #[.int .i64 W, .int .i64 H] 3)) (by simp)
  refine (HCK.out _ (HT.out.keep hB0) _ _ hR0).mono ?_
  rintro e1 w1 ⟨rfl, hb1⟩
  have HRT := Lib.hid (hT1.keep hb1 hT1.lt)
  have hb1 := hB0.trans (hb1.mono hB0.size)
  have hct := HRT.out.cell 0
  dsimp only [List.getElem?_cons_zero] at hct
  clear hT0 hB0 hR0 hT1
  by_cases hz : zfault ts [W, H] = 0
  · rw [if_neg (fun h => h hz)] at hf
    rw [errV_zero hz]
    obtain ⟨_, ⟨hW1, hW5⟩, hH1, hH5⟩ := zfault_two hz
    have hwh : 0 ≤ W * H ∧ W * H ≤ 25 := by
      obtain ⟨a, rfl⟩ := Int.eq_ofNat_of_zero_le (show 0 ≤ W by omega)
      obtain ⟨b, rfl⟩ := Int.eq_ofNat_of_zero_le (show 0 ≤ H by omega)
      have : a * b ≤ 5 * 5 := Nat.mul_le_mul (by omega) (by omega)
      have e : ((a * b : Nat) : Int) = (a : Int) * (b : Int) := by push_cast; rfl
      omega
    obtain ⟨hwh1, hwh2⟩ := hwh
    unfold cfault at hf
    by_cases hl : (zs.length : Int) ≠ W * H
    · rw [if_pos hl] at hf
      rw [hsn] at hl
      subst hf
      have hl' : ((sn : Int) == W * H) = false := by rw [beq_eq_false_iff_ne]; exact hl
      go_wp2_with fail
      go_ret2
      exact ⟨rfl, hb1⟩
    · rw [if_neg hl] at hf
      have hl' : W * H = (sn : Int) := by omega
      have hoff : zs.any (off n) = true := by
        by_cases ha : ∀ z ∈ zs, 0 ≤ z ∧ z < (n : Int)
        · rw [if_pos ha] at hf; exact absurd hf hf0
        · by_cases hb : zs.any (off n) = true
          · exact hb
          · exact absurd (any_off.1 (Bool.eq_false_iff.2 hb)) ha
      have hf1 : f = 1 := by
        rw [hf, if_neg]
        intro ha
        rw [any_off.2 ha] at hoff
        cases hoff
      subst hf1
      have HOFF := Lib.hid hoff
      have HSN6 : Hid (sn ≤ 1000000) := by show sn ≤ 1000000; omega
      clear hoff hf
      go_wp2_with fail
      refine (contains_any sa sn sc zs w.heap.size a n c _ hsn HSN6.out (HZ.out.keep hb1) hct).mono ?_
      rintro e2 w2 ⟨rfl, rfl⟩
      rw [HOFF.out]
      go_wp2_with fail
      go_ret2
      exact ⟨rfl, hb1⟩
  · rw [if_pos hz] at hf
    subst hf
    rw [errV_some hz]
    go_wp2_with fail
    go_ret2
    exact ⟨rfl, hb1⟩
end Wg
end Go.Proofs.YthggpjpmjhaidaaDoor
