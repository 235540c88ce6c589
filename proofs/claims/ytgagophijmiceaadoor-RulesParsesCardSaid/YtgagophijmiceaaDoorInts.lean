/- edenref1.Ints: are two lists of numbers the same? -/
import Derived.Test.YtgagophijmiceaaDoorChecked
import Derived.Test.YtgagophijmiceaaDoorOps
import Derived.WalkSpells
import Derived.WalkLawsBesides
import Derived.Lib.Hide
namespace Go.Proofs.YtgagophijmiceaaDoor
set_option linter.unusedSimpArgs false
set_option linter.unusedVariables false
open Go.RowKit
namespace Ints
open Mem

/-- A slice of ints that can be read: its numbers. -/
structure Is (w : World) (a : Option Addr) (n : Nat) (zs : List Int) : Prop where
  len : zs.length = n
  cells : Cells w a n (fun i => .int .i64 (zs.getD i 0))
  le : n ≤ maxLen
theorem Is.below {w w' : World} {a : Option Addr} {n : Nat} {zs : List Int} {B : Nat} (h : Is w a n zs) (hb : Below B w w') (hB : w.heap.size ≤ B) : Is w' a n zs := ⟨h.len, h.cells.below hb hB, h.le⟩
theorem Is.keep {w w' : World} {a : Option Addr} {n : Nat} {zs : List Int} (h : Is w a n zs) (hb : Below w.heap.size w w') : Is w' a n zs := h.below hb (Nat.le_refl _)
theorem Is.nil (w : World) : Is w none 0 [] := ⟨rfl, fun i h => absurd h (Nat.not_lt_zero _), Nat.zero_le _⟩

/-- The first i numbers are the same. -/
def AllEq (xs ys : List Int) (i : Nat) : Prop := ∀ j, j < i → xs.getD j 0 = ys.getD j 0
theorem AllEq.next {xs ys : List Int} {i : Nat} (h : AllEq xs ys i) (e : xs.getD i 0 = ys.getD i 0) : AllEq xs ys (i + 1) := fun j hj => by
  by_cases hji : j = i
  · rw [hji]; exact e
  · exact h j (by omega)

theorem same_of {xs ys : List Int} (h : xs.length = ys.length) (k : ∀ i, i < xs.length → xs.getD i 0 = ys.getD i 0) : xs = ys := by
  apply List.ext_getElem h
  intro i h1 h2
  have := k i h1
  rw [List.getD_eq_getElem?_getD, List.getD_eq_getElem?_getD, List.getElem?_eq_getElem h1, List.getElem?_eq_getElem h2] at this
  exact this

set_option maxHeartbeats 1000000 in
theorem ints_any (a b : Option Addr) (n m c d : Nat) (xs ys : List Int) (w : World) (hx : Is w a n xs) (hy : Is w b m ys) :
    Calls Tryd.prog 34 #[.slice a n c, .slice b m d] w fun e w' => e = .returned (.bool (decide (xs = ys))) ∧ Below w.heap.size w w' := by
  have hn := hx.le
  have hm := hy.le
  unfold maxLen at hn hm
  have HX := Lib.hid hx
  have HY := Lib.hid hy
  clear hx hy
  by_cases hnm : n = m
  · subst hnm
    go_enter Tryd.func34, Tryd.ntmps34
    go_wp2
    go_loopw [5] (fun v wr => ∃ i : Nat, i ≤ n ∧ v = .int .i64 i ∧ AllEq xs ys i ∧ Below w.heap.size w wr) (fun v _ => n - (intOf v).toNat)
    case atStart => exact ⟨0, Nat.zero_le _, rfl, fun j h => absurd h (Nat.not_lt_zero _), Below.refl _ _⟩
    case round =>
      obtain ⟨i, hi, rfl, hall, hbel⟩ := hrel
      have HA := Lib.hid hall
      clear hall
      by_cases hlt : i < n
      · obtain ⟨p, off, rfl, _, hc1⟩ := (HX.out.keep hbel).cells i hlt
        obtain ⟨q, off', rfl, _, hc2⟩ := (HY.out.keep hbel).cells i hlt
        dsimp only at hc1 hc2
        by_cases he : xs.getD i 0 = ys.getD i 0
        · have HE := Lib.hid (HA.out.next he)
          rw [← he] at hc2
          clear he
          generalize xs.getD i 0 = x at *
          go_wp2
          go_quiet (fail)
          go_wp2
          exact ⟨⟨i + 1, by omega, by go_num, HE.out, below_drewN hbel _⟩, by simp [intOf]; omega⟩
        · have hF : Hid (decide (xs = ys) = false) := by
            have : ¬ xs = ys := fun h => he (by rw [h])
            exact decide_eq_false this
          have hno : (xs.getD i 0 != ys.getD i 0) = true := by rw [bne_iff_ne]; exact he
          clear he
          generalize xs.getD i 0 = x at *
          generalize ys.getD i 0 = y at *
          go_wp2
          go_quiet (fail)
          go_wp2
          go_ret
          exact ⟨congrArg Ending.returned (congrArg Value.bool hF.out.symm), below_drewN hbel _⟩
      · have hF : Hid (decide (xs = ys) = true) := by
          have : xs = ys := same_of (by rw [HX.out.len, HY.out.len]) fun j hj => HA.out j (by have := HX.out.len; omega)
          exact decide_eq_true this
        go_wp2
        go_ret
        exact ⟨congrArg Ending.returned (congrArg Value.bool hF.out.symm), hbel⟩
  · have hF : Hid (decide (xs = ys) = false) := by
      have : ¬ xs = ys := fun h => hnm (by rw [← HX.out.len, ← HY.out.len, h])
      exact decide_eq_false this
    have hno : ((n : Int) != (m : Int)) = true := by rw [bne_iff_ne]; omega
    go_enter Tryd.func34, Tryd.ntmps34
    go_wp2
    go_ret
    exact ⟨congrArg Ending.returned (congrArg Value.bool hF.out.symm), Below.refl _ _⟩
end Ints
end Go.Proofs.YtgagophijmiceaaDoor
