/- WALK: counter.Run. -/
import Derived.Test.YtfhhnajnanlmgaaGreatDoorCrO
import Derived.Test.YtfhhnajnanlmgaaGreatDoorCrB
namespace Go.Proofs.YtfhhnajnanlmgaaGreatDoor
set_option linter.unusedSimpArgs false
set_option linter.unusedVariables false
open Go.RowKit
namespace Cr
open Tld Mem

/-! ### plain -/
/-- What counters are at the end, how many lines were gone, where; or 6: no fuel, 4: too many. -/
def runM (f : Nat → Nat → Int) : Nat → List Int → Nat → Nat → List Int × Nat × Nat × Int
  | 0, c, at', n => if f at' 0 = 3 then (c, n, at', 0) else ([], 0, 0, 6)
  | d + 1, c, at', n =>
    if f at' 0 = 3 then (c, n, at', 0)
    else if f at' 0 = 1 then
      if c.getD (f at' 1).toNat 0 = 1000000 then ([], 0, 0, 4) else runM f d (c.set (f at' 1).toNat (c.getD (f at' 1).toNat 0 + 1)) (f at' 2).toNat (n + 1)
    else if 0 < c.getD (f at' 1).toNat 0 then runM f d (c.set (f at' 1).toNat (c.getD (f at' 1).toNat 0 - 1)) (f at' 2).toNat (n + 1)
    else runM f d c (f at' 3).toNat (n + 1)
theorem runM_halt {f : Nat → Nat → Int} {at' : Nat} (h : f at' 0 = 3) (d : Nat) (c : List Int) (n : Nat) : runM f d c at' n = (c, n, at', 0) := by
  cases d <;> simp only [runM, if_pos h]
theorem runM_fuel {f : Nat → Nat → Int} {at' : Nat} (h : f at' 0 ≠ 3) (c : List Int) (n : Nat) : runM f 0 c at' n = ([], 0, 0, 6) := by
  simp only [runM, if_neg h]
theorem runM_full {f : Nat → Nat → Int} {at' d : Nat} {c : List Int} (h : f at' 0 = 1) (hc : c.getD (f at' 1).toNat 0 = 1000000) (hd : 0 < d) (n : Nat) : runM f d c at' n = ([], 0, 0, 4) := by
  obtain ⟨d, rfl⟩ : ∃ e, d = e + 1 := ⟨d - 1, by omega⟩
  simp only [runM, if_neg (show f at' 0 ≠ 3 by omega), if_pos h, if_pos hc]
theorem runM_inc {f : Nat → Nat → Int} {at' d : Nat} {c : List Int} (h : f at' 0 = 1) (hc : c.getD (f at' 1).toNat 0 ≠ 1000000) (hd : 0 < d) (n : Nat) : runM f d c at' n = runM f (d - 1) (c.set (f at' 1).toNat (c.getD (f at' 1).toNat 0 + 1)) (f at' 2).toNat (n + 1) := by
  obtain ⟨d, rfl⟩ : ∃ e, d = e + 1 := ⟨d - 1, by omega⟩
  simp only [runM, if_neg (show f at' 0 ≠ 3 by omega), if_pos h, if_neg hc, Nat.add_sub_cancel]
theorem runM_dec {f : Nat → Nat → Int} {at' d : Nat} {c : List Int} (h : f at' 0 = 2) (hc : 0 < c.getD (f at' 1).toNat 0) (hd : 0 < d) (n : Nat) : runM f d c at' n = runM f (d - 1) (c.set (f at' 1).toNat (c.getD (f at' 1).toNat 0 - 1)) (f at' 2).toNat (n + 1) := by
  obtain ⟨d, rfl⟩ : ∃ e, d = e + 1 := ⟨d - 1, by omega⟩
  simp only [runM, if_neg (show f at' 0 ≠ 3 by omega), if_neg (show f at' 0 ≠ 1 by omega), if_pos hc, Nat.add_sub_cancel]
theorem runM_else {f : Nat → Nat → Int} {at' d : Nat} {c : List Int} (h : f at' 0 = 2) (hc : ¬ 0 < c.getD (f at' 1).toNat 0) (hd : 0 < d) (n : Nat) : runM f d c at' n = runM f (d - 1) c (f at' 3).toNat (n + 1) := by
  obtain ⟨d, rfl⟩ : ∃ e, d = e + 1 := ⟨d - 1, by omega⟩
  simp only [runM, if_neg (show f at' 0 ≠ 3 by omega), if_neg (show f at' 0 ≠ 1 by omega), if_neg hc, Nat.add_sub_cancel]
/-- Counters as they may be. -/
def InR (c : List Int) : Prop := ∀ i, i < 4 → 0 ≤ c.getD i 0 ∧ c.getD i 0 ≤ 1000000
theorem InR.set {c : List Int} (h : InR c) (hl : c.length = 4) {a : Nat} {z : Int} (hz : 0 ≤ z ∧ z ≤ 1000000) : InR (c.set a z) := fun i hi => by
  rw [List.getD_eq_getElem?_getD, List.getElem?_set]
  split
  · rename_i e
    subst e
    rw [if_pos (by omega)]
    exact hz
  · rw [← List.getD_eq_getElem?_getD]
    exact h i hi

/-! ### the counters' row -/
def CRow (w : World) (g : Nat) (c : List Int) : Prop := c.length = 4 ∧ ∃ ls, Row w g 3 ls ∧ ls.take 4 = c.map (Value.int .i64)
theorem CRow.cell {w : World} {g i : Nat} {c : List Int} (h : CRow w g c) (hi : i < 4) : w.cell? ⟨g, i, none⟩ = some (.int .i64 (c.getD i 0)) := by
  obtain ⟨hl, ls, hr, ht⟩ := h
  rw [hr.cell, ← List.getElem?_take_of_lt (j := 4) hi, ht, List.getElem?_map, List.getElem?_eq_getElem (by omega), List.getD_eq_getElem?_getD, List.getElem?_eq_getElem (by omega)]
  rfl
theorem CRow.frozen {w : World} {g : Nat} {c : List Int} (h : CRow w g c) (i : Nat) : w.frozen? ⟨g, i, none⟩ = false := by
  obtain ⟨hl, ls, hr, ht⟩ := h
  exact hr.frozen i
theorem CRow.lt {w : World} {g : Nat} {c : List Int} (h : CRow w g c) : g < w.heap.size := by
  obtain ⟨hl, ls, hr, ht⟩ := h
  exact hr.lt
theorem CRow.keep {w w' : World} {g : Nat} {c : List Int} (h : CRow w g c) (hb : Below w.heap.size w w') : CRow w' g c := by
  obtain ⟨hl, ls, hr, ht⟩ := h
  exact ⟨hl, ls, hr.keep hb hr.lt, ht⟩
theorem CRow.set {w : World} {g : Nat} {c : List Int} (h : CRow w g c) (a : Nat) (z : Int) : CRow (w.setCell ⟨g, a, none⟩ (.int .i64 z)) g (c.set a z) := by
  obtain ⟨hl, ls, hr, ht⟩ := h
  exact ⟨by rw [List.length_set, hl], ls.set a (.int .i64 z), hr.set a _, by rw [List.take_set, ht, List.map_set]⟩
theorem CRow.is {w : World} {g : Nat} {c : List Int} (h : CRow w g c) : Ints.Is w (some ⟨g, 0, none⟩) 4 c :=
  ⟨h.1, fun i hi => ⟨g, 0, rfl, h.lt, by dsimp only; rw [Nat.zero_add]; exact h.cell hi⟩, by unfold maxLen; omega⟩
theorem CRow.of {w : World} {B : Nat} {v : Value} {c : List Int} (h : w.ownsRow B 3 1 v 4 (c.map (Value.int .i64))) (hl : c.length = 4) : ∃ g cap, v = .slice (some ⟨g, 0, none⟩) 4 cap ∧ B ≤ g ∧ CRow w g c := by
  rcases h.2 with ⟨hv, h0⟩ | ⟨g, cap, cur, hv, hB, hg, hnc, hcm, hcs, ht⟩
  · omega
  · exact ⟨g, cap, hv, hB, hl, cur.toList, by unfold Row; simpa using hg, by simpa using ht⟩

/-! ### counters out of range -/
def cbad (z : Int) : Bool := decide (z < 0 ∨ 1000000 < z)
set_option maxHeartbeats 1000000 in
theorem ctest_any (z : Int) (w : World) : Calls Tryz.prog 23 #[.int .i64 z] w fun e w' => e = .returned (.bool (cbad z)) ∧ w = w' := by
  go_enter Tryz.func23, Tryz.ntmps23
  by_cases h0 : z < 0
  · have : cbad z = true := by unfold cbad; simp; omega
    rw [this]
    go_wp2
    go_ret
    exact ⟨rfl, rfl⟩
  · by_cases h1 : 1000000 < z
    · have : cbad z = true := by unfold cbad; simp; omega
      rw [this]
      go_wp2
      go_ret
      exact ⟨rfl, rfl⟩
    · have : cbad z = false := by unfold cbad; simp; omega
      rw [this]
      go_wp2
      go_ret
      exact ⟨rfl, rfl⟩
set_option maxHeartbeats 2000000 in
theorem cindex_any (sa : Option Addr) (sn sc : Nat) (zs : List Int) (w : World) (hZ : Ints.Is w sa sn zs) :
    Calls Tryz.prog 42 #[.slice sa sn sc, .func (.func 23) #[] #[]] w fun e w' => (∃ k : Int, e = .returned (.int .i64 k) ∧ decide (0 ≤ k) = zs.any cbad) ∧ w = w' := by
  have HG := Lib.hid (fun z => ctest_any z w)
  have hs := hZ.le
  unfold maxLen at hs
  have HZ := Lib.hid hZ
  clear hZ
  go_enter Tryz.func42, Tryz.ntmps42
  go_wp2
  go_loop [8] (fun v => ∃ i : Nat, i ≤ sn ∧ v = .int .i64 i ∧ (∀ k, k < i → cbad (zs.getD k 0) = false)) (fun v => sn - (RowKit.intOf v).toNat)
  case atStart => exact ⟨0, Nat.zero_le _, rfl, fun k hk => absurd hk (Nat.not_lt_zero _)⟩
  case round =>
    obtain ⟨i, hi, rfl, hok⟩ := hrel
    have HOK := Lib.hid hok
    clear hok
    by_cases hlt : i < sn
    · obtain ⟨b, off', rfl, hbl, hc⟩ := HZ.out.cells i hlt
      dsimp only at hc
      have HY := Lib.hid (fun h => any_yes (zs := zs) (p := cbad) (k := i) (by rw [HZ.out.len]; exact hlt) h)
      have HOK2 : Hid (cbad (zs.getD i 0) = false → ∀ k, k < i + 1 → cbad (zs.getD k 0) = false) := fun h k hk => by
        by_cases hki : k = i
        · subst hki; exact h
        · exact HOK.out k (by omega)
      have HG2 := Lib.hid (HG.out (zs.getD i 0))
      generalize hz : zs.getD i 0 = z at *
      clear hz
      generalize hp : cbad z = q at *
      clear hp
      go_wp2_with fail
      refine HG2.out.mono ?_
      rintro e1 w1 ⟨rfl, rfl⟩
      cases q
      · go_wp2_with fail
        go_round
        case rel => exact ⟨i + 1, by omega, by go_num, HOK2.out (by first | rfl | trivial)⟩
        case measure => simp [RowKit.intOf]; omega
      · go_wp2_with fail
        go_ret
        exact ⟨⟨i, rfl, by rw [HY.out (by first | rfl | trivial)]; simp⟩, rfl⟩
    · have HN := Lib.hid (any_no (zs := zs) (p := cbad) fun k hk => HOK.out k (by rw [HZ.out.len] at hk; omega))
      go_wp2
      go_ret
      exact ⟨⟨-1, rfl, by rw [HN.out]; rfl⟩, rfl⟩
theorem ccontains_any (sa : Option Addr) (sn sc : Nat) (zs : List Int) (w : World) (hZ : Ints.Is w sa sn zs) :
    Calls Tryz.prog 22 #[.slice sa sn sc, .func (.func 23) #[] #[]] w fun e w' => e = .returned (.bool (zs.any cbad)) ∧ w = w' := by
  have HI := Lib.hid (cindex_any sa sn sc zs w hZ)
  clear hZ
  go_enter Tryz.func22, Tryz.ntmps22
  go_wp2_with fail
  refine HI.out.mono ?_
  rintro e1 w1 ⟨⟨k, rfl, hk⟩, rfl⟩
  have HK := Lib.hid hk
  clear hk
  go_wp2
  go_ret
  exact ⟨congrArg (fun b => Ending.returned (.bool b)) HK.out, rfl⟩
end Cr
end Go.Proofs.YtfhhnajnanlmgaaGreatDoor
