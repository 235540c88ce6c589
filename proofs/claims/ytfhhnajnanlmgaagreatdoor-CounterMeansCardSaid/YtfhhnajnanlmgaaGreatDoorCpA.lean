/- WALK: fractions: the common divisor, is a fraction bad, is there a bad one. -/
import Derived.Test.YtfhhnajnanlmgaaGreatDoorOps
import Derived.Test.YtfhhnajnanlmgaaGreatDoorErr
import Derived.Test.YtfhhnajnanlmgaaGreatDoorInts
import Derived.Test.YtfhhnajnanlmgaaGreatDoorOpenI
import Derived.Test.YtfhhnajnanlmgaaGreatDoorCpPl
import Derived.Test.YtfhhnajnanlmgaaGreatDoorChecked
import Derived.WalkSpells
import Derived.WalkLawsBesides
import Derived.Lib.Hide
import Derived.BigQuiet
import Derived.BigRegion
import Derived.Deep.QuietTactic
import Derived.Deep.DeepCutAuto
import Derived.Deep.RegionHeld3
import Derived.Deep.RegionWith
import Derived.Deep.MidRow
namespace Go.Proofs.YtfhhnajnanlmgaaGreatDoor
set_option linter.unusedSimpArgs false
set_option linter.unusedVariables false
open Go.RowKit Go.Lib
namespace Cp
open Tld Mem

theorem infoFrac : (Tryz.prog.info? 75).map (·.size) = some 2 := by kernel_rfl
theorem fracs_range {w : World} {b off m : Nat} {f : Nat → Nat → Int} (h : Mem.Rows w (some ⟨b, off, none⟩) m 2 (fun i j => .int .i64 (f i j))) {i : Nat} (hi : i < m) : w.rangeAt b (off + i * 2) [.int .i64 (f i 0), .int .i64 (f i 1)] := fun j v hv => by
  obtain ⟨b', o', e, _, hc⟩ := h i hi
  cases e
  match j, hv with
  | 0, hv => simp only [List.getElem?_cons_zero, Option.some.injEq] at hv; rw [← hv]; exact hc 0 (by omega)
  | 1, hv => simp only [List.getElem?_cons_succ, List.getElem?_cons_zero, Option.some.injEq] at hv; rw [← hv]; exact hc 1 (by omega)
  | j + 2, hv => simp at hv

def bad (x y : Int) : Bool := decide (x < 1 ∨ y < 1)
set_option maxHeartbeats 1000000 in
theorem bad_any (x y : Int) (w : World) : Calls Tryz.prog 34 #[.agg #[.int .i64 x, .int .i64 y]] w fun e w' => e = .returned (.bool (bad x y)) ∧ Below w.heap.size w w' := by
  go_enter Tryz.func34, Tryz.ntmps34
  go_upto_region 1 with fail
  have hR : Row (w.alloc (.cells #[.int .i64 x, .int .i64 y] 75)) w.heap.size 75 [.int .i64 x, .int .i64 y] := row_alloc w _ _
  have hB : Below w.heap.size w (w.alloc (.cells #[.int .i64 x, .int .i64 y] 75)) := (Below.refl _ _).alloc (Nat.le_refl _) _
  have H : Hid _ := Lib.hid hR
  have HB : Hid _ := Lib.hid hB
  clear hR hB
  generalize w.alloc (.cells #[.int .i64 x, .int .i64 y] 75) = w1 at *
  obtain ⟨b1, hb1⟩ : ∃ b1, b1 = w.heap.size := ⟨_, rfl⟩
  rw [← hb1] at H ⊢
  have HB1 := Lib.hid hb1
  clear hb1
  have f0 := H.out.cell 0
  have f1 := H.out.cell 1
  dsimp only [List.getElem?_cons_succ, List.getElem?_cons_zero] at f0 f1
  by_cases hx : x < 1
  · have d0 : decide (x < 1) = true := decide_eq_true hx
    have hbd : bad x y = true := decide_eq_true (.inl hx)
    have HBD := Lib.hid hbd
    clear hx hbd
    go_wp2_with fail
    go_ret
    exact ⟨by rw [HBD.out]; rfl, HB1.out ▸ HB.out⟩
  · have d0 : decide (x < 1) = false := decide_eq_false hx
    by_cases hy : y < 1
    · have d1 : decide (y < 1) = true := decide_eq_true hy
      have hbd : bad x y = true := decide_eq_true (.inr hy)
      have HBD := Lib.hid hbd
      clear hx hy hbd
      go_wp2_with fail
      go_ret
      exact ⟨by rw [HBD.out]; rfl, HB1.out ▸ HB.out⟩
    · have d1 : decide (y < 1) = false := decide_eq_false hy
      have hbd : bad x y = false := decide_eq_false (fun h => h.elim hx hy)
      have HBD := Lib.hid hbd
      clear hx hy hbd
      go_wp2_with fail
      go_ret
      exact ⟨by rw [HBD.out]; rfl, HB1.out ▸ HB.out⟩

/-- The least number whose fraction is bad, or -1. -/
def IndexP (f : Nat → Nat → Int) (m : Nat) (k : Int) : Prop := decide (0 ≤ k) = decide (∃ i, i < m ∧ bad (f i 0) (f i 1) = true)
set_option maxHeartbeats 4000000 in
set_option maxRecDepth 1000000 in
theorem index_any (sa : Option Addr) (m c : Nat) (f : Nat → Nat → Int) (w : World) (hm : m ≤ 9223372036854775807) (hF : Mem.Rows w sa m 2 (fun i j => .int .i64 (f i j))) :
    Calls Tryz.prog 46 #[.slice sa m c, .func (.func 34) #[] #[]] w fun e w' => (∃ k : Int, e = .returned (.int .i64 k) ∧ (0 ≤ k ↔ ∃ i, i < m ∧ bad (f i 0) (f i 1) = true)) ∧ Below w.heap.size w w' := by
  have HF := Lib.hid hF
  clear hF
  go_enter Tryz.func46, Tryz.ntmps46
  go_wp2
  go_loopw [8] (fun v wr => ∃ i : Nat, i ≤ m ∧ v = .int .i64 i ∧ (∀ k, k < i → bad (f k 0) (f k 1) = false) ∧ Below w.heap.size w wr) (fun v _ => m - (intOf v).toNat)
  case atStart => exact ⟨0, Nat.zero_le _, rfl, fun k hk => absurd hk (Nat.not_lt_zero _), Below.refl _ _⟩
  case round =>
    obtain ⟨i, hi, rfl, hok, hb⟩ := hrel
    have HOK := Lib.hid hok
    have HB := Lib.hid hb
    clear hok hb
    by_cases hlt : i < m
    · obtain ⟨b, off, rfl, hbl, hrest⟩ := HF.out i hlt
      clear hrest
      have l1 := fracs_range ((HF.out).below HB.out (Nat.le_refl _)) hlt
      have hi2 : (i : Int) < (m : Int) := by omega
      have HOK2 : Hid (bad (f i 0) (f i 1) = false → ∀ k, k < i + 1 → bad (f k 0) (f k 1) = false) := fun h k hk => by
        by_cases hki : k = i
        · subst hki; exact h
        · exact HOK.out k (by omega)
      have HY : Hid (bad (f i 0) (f i 1) = true → ∃ i, i < m ∧ bad (f i 0) (f i 1) = true) := fun h => ⟨i, hlt, h⟩
      obtain ⟨x, hx⟩ : ∃ x, x = f i 0 := ⟨_, rfl⟩
      obtain ⟨y, hy⟩ : ∃ y, y = f i 1 := ⟨_, rfl⟩
      rw [← hx, ← hy] at l1 HOK2 HY
      clear hx hy
      have HC := Lib.hid (bad_any x y wr)
      obtain ⟨q, hq⟩ : ∃ q, q = bad x y := ⟨_, rfl⟩
      rw [← hq] at HOK2 HY HC
      clear hq
      go_wp2_with (refine wpList_load_mid rfl 75 _ rfl b (off + i * 2) rfl _ _ l1 Tryz.underlying75 rfl infoFrac ?_)
      clear l1
      refine HC.out.mono ?_
      rintro e1 w1 ⟨rfl, hb1⟩
      have HB1 : Hid (Below w.heap.size w w1) := HB.out.trans (hb1.mono HB.out.size)
      clear hb1
      cases q
      · go_wp2_with fail
        go_roundw
        case rel => exact ⟨i + 1, by omega, by go_num, HOK2.out (by first | rfl | trivial), HB1.out⟩
        case measure => simp [intOf]; omega
      · go_wp2_with fail
        go_ret
        exact ⟨⟨i, rfl, ⟨fun _ => HY.out (by first | rfl | trivial), fun _ => by omega⟩⟩, HB1.out⟩
    · have HN : Hid (¬ ∃ i, i < m ∧ bad (f i 0) (f i 1) = true) := fun ⟨k, hk, h⟩ => by
        rw [HOK.out k (by omega)] at h; cases h
      have hlt2 : ¬ (i : Int) < (m : Int) := by omega
      go_wp2
      go_ret
      exact ⟨⟨-1, rfl, ⟨fun h => by omega, fun h => absurd h HN.out⟩⟩, HB.out⟩

theorem contains_any (sa : Option Addr) (m c : Nat) (f : Nat → Nat → Int) (w : World) (hm : m ≤ 9223372036854775807) (hF : Mem.Rows w sa m 2 (fun i j => .int .i64 (f i j))) :
    Calls Tryz.prog 33 #[.slice sa m c, .func (.func 34) #[] #[]] w fun e w' => (∃ q : Bool, e = .returned (.bool q) ∧ (q = true ↔ ∃ i, i < m ∧ bad (f i 0) (f i 1) = true)) ∧ Below w.heap.size w w' := by
  have HI := Lib.hid (index_any sa m c f w hm hF)
  clear hF
  go_enter Tryz.func33, Tryz.ntmps33
  go_wp2_with fail
  refine HI.out.mono ?_
  rintro e1 w1 ⟨⟨k, rfl, hk⟩, hb⟩
  have HK := Lib.hid hk
  have HB := Lib.hid hb
  clear hk hb
  go_wp2
  go_ret
  exact ⟨⟨_, rfl, by rw [decide_eq_true_iff]; exact HK.out⟩, HB.out⟩
end Cp
end Go.Proofs.YtfhhnajnanlmgaaGreatDoor
