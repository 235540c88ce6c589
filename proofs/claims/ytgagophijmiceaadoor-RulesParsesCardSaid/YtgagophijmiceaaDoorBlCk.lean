/- WALK: blocks.Check, pattern.Check: what is wrong with a table, with a pattern; slices.ContainsFunc by what its test answers. -/
import Derived.Test.YtgagophijmiceaaDoorChecked
import Derived.Test.YtgagophijmiceaaDoorOps
import Derived.Test.YtgagophijmiceaaDoorErr
import Derived.Test.YtgagophijmiceaaDoorBlPl4
import Derived.WalkSpells
import Derived.WalkLawsBesides
import Derived.Lib.Hide
import Derived.Deep.DeepCutAuto
import Derived.Deep.RegionHeld3
namespace Go.Proofs.YtgagophijmiceaaDoor
set_option linter.unusedSimpArgs false
set_option linter.unusedVariables false
open Go.RowKit Go.Lib
namespace Bl
open Tld Mem

theorem int_mem {zs : List Int} {k : Nat} (h : k < zs.length) : zs.getD k 0 ∈ zs := by
  rw [List.getD_eq_getElem?_getD, List.getElem?_eq_getElem h]
  exact List.getElem_mem h
theorem any_no {zs : List Int} {p : Int → Bool} (h : ∀ k, k < zs.length → p (zs.getD k 0) = false) : zs.any p = false := by
  rw [List.any_eq_false]
  intro z hz
  obtain ⟨k, hk, rfl⟩ := List.getElem_of_mem hz
  have := h k hk
  rw [List.getD_eq_getElem?_getD, List.getElem?_eq_getElem hk] at this
  exact Bool.eq_false_iff.1 this
theorem any_yes {zs : List Int} {p : Int → Bool} {k : Nat} (hk : k < zs.length) (h : p (zs.getD k 0) = true) : zs.any p = true :=
  List.any_eq_true.2 ⟨_, int_mem hk, h⟩
/-- An entry that is none of a table's; a cell that is none of a pattern's. -/
def tbad (z : Int) : Bool := decide (z < 0 ∨ 15 < z)
def cbad (z : Int) : Bool := decide (z ≠ 0 ∧ z ≠ 1)
/-- The fault of a table, of a pattern. -/
def tfault (zs : List Int) : Int := if zs.length ≠ 16 then 3 else if zs.any tbad = true then 1 else 0
def okSides (W H : Int) : Prop := 0 ≤ W ∧ W ≤ 100 ∧ 0 ≤ H ∧ H ≤ 100
instance (W H : Int) : Decidable (okSides W H) := by unfold okSides; infer_instance
def pfault (W H : Int) (zs : List Int) : Int := if ¬ okSides W H then 1 else if (zs.length : Int) ≠ W * H then 3 else if zs.any cbad = true then 1 else 0

set_option maxHeartbeats 1000000 in
theorem ctest_any (z : Int) (w : World) : Calls Tryd.prog 42 #[.int .i64 z] w fun e w' => e = .returned (.bool (cbad z)) ∧ w = w' := by
  go_enter Tryd.func42, Tryd.ntmps42
  by_cases h0 : z = 0
  · subst h0
    have : cbad 0 = false := by decide
    rw [this]
    go_wp2
    go_ret
    exact ⟨rfl, rfl⟩
  · by_cases h1 : z = 1
    · subst h1
      have : cbad 1 = false := by decide
      rw [this]
      go_wp2
      go_ret
      exact ⟨rfl, rfl⟩
    · have h2 : cbad z = true := by unfold cbad; simp; omega
      have h3 : (z != 0) = true := by rw [bne_iff_ne]; exact h0
      have h4 : (z != 1) = true := by rw [bne_iff_ne]; exact h1
      rw [h2]
      go_wp2
      go_ret
      exact ⟨rfl, rfl⟩

set_option maxHeartbeats 2000000 in
theorem cindex_any (sa : Option Addr) (sn sc : Nat) (zs : List Int) (w : World) (hz : zs.length = sn) (hs : sn ≤ 9223372036854775807) (hZ : Cells w sa sn (fun i => .int .i64 (zs.getD i 0))) :
    Calls Tryd.prog 64 #[.slice sa sn sc, .func (.func 42) #[] #[]] w fun e w' => (∃ k : Int, e = .returned (.int .i64 k) ∧ decide (0 ≤ k) = zs.any cbad) ∧ w = w' := by
  have HZ := Lib.hid hZ
  have HG := Lib.hid (fun z => ctest_any z w)
  have HZL := Lib.hid hz
  clear hZ hz
  go_enter Tryd.func64, Tryd.ntmps64
  go_wp2
  go_loop [8] (fun v => ∃ i : Nat, i ≤ sn ∧ v = .int .i64 i ∧ (∀ k, k < i → cbad (zs.getD k 0) = false)) (fun v => sn - (intOf v).toNat)
  case atStart => exact ⟨0, Nat.zero_le _, rfl, fun k hk => absurd hk (Nat.not_lt_zero _)⟩
  case round =>
    obtain ⟨i, hi, rfl, hok⟩ := hrel
    have HOK := Lib.hid hok
    clear hok
    by_cases hlt : i < sn
    · obtain ⟨b, off', rfl, hbl, hc⟩ := HZ.out i hlt
      dsimp only at hc
      have HY := Lib.hid (fun h => any_yes (zs := zs) (p := cbad) (k := i) (by rw [HZL.out]; exact hlt) h)
      have HOK2 : Hid (cbad (zs.getD i 0) = false → ∀ k, k < i + 1 → cbad (zs.getD k 0) = false) := fun h k hk => by
        by_cases hki : k = i
        · subst hki; exact h
        · exact HOK.out k (by omega)
      have HG2 := Lib.hid (HG.out (zs.getD i 0))
      generalize hz : zs.getD i 0 = z at *
      clear hz
      generalize hp : cbad z = q at *
      clear hp
      go_wp2_with fail
      refine HG2.out.mono ?_
      rintro e1 w1 ⟨rfl, rfl⟩
      cases q
      · go_wp2_with fail
        go_round
        case rel => exact ⟨i + 1, by omega, by go_num, HOK2.out (by first | rfl | trivial)⟩
        case measure => simp [intOf]; omega
      · go_wp2_with fail
        go_ret
        exact ⟨⟨i, rfl, by rw [HY.out (by first | rfl | trivial)]; simp⟩, rfl⟩
    · have HN := Lib.hid (any_no (zs := zs) (p := cbad) fun k hk => HOK.out k (by rw [HZL.out] at hk; omega))
      go_wp2
      go_ret
      exact ⟨⟨-1, rfl, by rw [HN.out]; rfl⟩, rfl⟩
theorem ccontains_any (sa : Option Addr) (sn sc : Nat) (zs : List Int) (w : World) (hz : zs.length = sn) (hs : sn ≤ 9223372036854775807) (hZ : Cells w sa sn (fun i => .int .i64 (zs.getD i 0))) :
    Calls Tryd.prog 41 #[.slice sa sn sc, .func (.func 42) #[] #[]] w fun e w' => e = .returned (.bool (zs.any cbad)) ∧ w = w' := by
  have HI := Lib.hid (cindex_any sa sn sc zs w hz hs hZ)
  clear hZ
  go_enter Tryd.func41, Tryd.ntmps41
  go_wp2_with fail
  refine HI.out.mono ?_
  rintro e1 w1 ⟨⟨k, rfl, hk⟩, rfl⟩
  have HK := Lib.hid hk
  clear hk
  go_wp2
  go_ret
  exact ⟨congrArg (fun b => Ending.returned (.bool b)) HK.out, rfl⟩

set_option maxHeartbeats 1000000 in
theorem side_any (z : Int) (w : World) : Calls Tryd.prog 40 #[.int .i64 z] w fun e w' => e = .returned (.bool (decide (0 ≤ z ∧ z ≤ 100))) ∧ w = w' := by
  go_enter Tryd.func40, Tryd.ntmps40
  by_cases h0 : z < 0
  · have : decide (0 ≤ z ∧ z ≤ 100) = false := by simp; omega
    rw [this]
    go_wp2
    go_ret
    exact ⟨rfl, rfl⟩
  · have h2 : decide (z ≤ 100) = decide (0 ≤ z ∧ z ≤ 100) := by
      exact decide_eq_decide.2 (by omega)
    go_wp2
    go_ret
    exact ⟨rfl, rfl⟩
/-- A pattern as a value. -/
def pat (W H : Int) (a : Option Addr) (n c : Nat) : Value := .agg #[.int .i64 W, .int .i64 H, .slice a n c]
theorem side_no {z : Int} (h : ¬ (0 ≤ z ∧ z ≤ 100)) : decide (0 ≤ z ∧ z ≤ 100) = false := decide_eq_false h
theorem side_yes {z : Int} (h : 0 ≤ z ∧ z ≤ 100) : decide (0 ≤ z ∧ z ≤ 100) = true := decide_eq_true h
set_option maxHeartbeats 4000000 in
theorem pcheck_any (W H : Int) (a : Option Addr) (n c : Nat) (zs : List Int) (w : World) (hz : zs.length = n) (hs : n ≤ 9223372036854775807) (hZ : Cells w a n (fun i => .int .i64 (zs.getD i 0))) :
    Calls Tryd.prog 17 #[pat W H a n c] w fun e w' => e = .returned (errV (pfault W H zs)) ∧ Below w.heap.size w w' := by
  have HC := Lib.hid (fun w2 : World => fun h2 : Below w.heap.size w w2 => ccontains_any a n c zs w2 hz hs (hZ.keep h2))
  have HS := Lib.hid (fun z w2 => side_any z w2)
  clear hZ
  unfold pat
  by_cases hW : 0 ≤ W ∧ W ≤ 100
  · have d1 := side_yes hW
    by_cases hH : 0 ≤ H ∧ H ≤ 100
    · have d2 := side_yes hH
      obtain ⟨h1, h2⟩ := hW
      obtain ⟨h3, h4⟩ := hH
      have hp0 : 0 ≤ W * H := Int.mul_nonneg h1 h3
      have hp1 : W * H ≤ 100 * 100 := Int.mul_le_mul h2 h4 h3 (by omega)
      by_cases hn : (n : Int) = W * H
      · have HF : Hid (pfault W H zs = if zs.any cbad = true then 1 else 0) := by
          show pfault W H zs = _
          unfold pfault; rw [if_neg (by simp; exact ⟨h1, h2, h3, h4⟩), if_neg (by simp [hz, hn])]
        clear hz
        have hwr : IntKind.i64.wrap (W * H) = (n : Int) := by rw [IntKind.wrap_i64]; omega
        generalize zs.any cbad = q at *
        go_enter Tryd.func17, Tryd.ntmps17
        go_wp2_with fail
        refine (HS.out W _).mono ?_
        rintro e1 w1 ⟨rfl, rfl⟩
        rw [d1]
        go_wp2_with fail
        refine (HS.out H _).mono ?_
        rintro e2 w2 ⟨rfl, rfl⟩
        rw [d2]
        go_wp2_with fail
        have HB := Lib.hid ((Below.refl w.heap.size w).alloc (Nat.le_refl _) (.cells #[.int .i64 W, .int .i64 H, .slice a n c] 35))
        refine (HC.out _ HB.out).mono ?_
        rintro e3 w3 ⟨rfl, rfl⟩
        cases q
        · go_wp2_with fail
          go_ret
          exact ⟨congrArg Ending.returned (errV_nil (by rw [HF.out]; rfl)), HB.out⟩
        · go_wp2_with fail
          go_ret
          exact ⟨congrArg Ending.returned (errV_mk (by rw [HF.out]; rfl) (by decide)), HB.out⟩
      · have HF : Hid (pfault W H zs = 3) := by
          show pfault W H zs = _
          unfold pfault; rw [if_neg (by simp; exact ⟨h1, h2, h3, h4⟩), if_pos (by rw [hz]; exact hn)]
        clear hz
        have hwr : IntKind.i64.wrap (W * H) = W * H := by rw [IntKind.wrap_i64]; omega
        have hne : ((n : Int) != W * H) = true := by rw [bne_iff_ne]; exact hn
        go_enter Tryd.func17, Tryd.ntmps17
        go_wp2_with fail
        refine (HS.out W _).mono ?_
        rintro e1 w1 ⟨rfl, rfl⟩
        rw [d1]
        go_wp2_with fail
        refine (HS.out H _).mono ?_
        rintro e2 w2 ⟨rfl, rfl⟩
        rw [d2]
        go_wp2_with fail
        go_ret
        exact ⟨congrArg Ending.returned (errV_mk HF.out (by decide)), (Below.refl w.heap.size w).alloc (Nat.le_refl _) _⟩
    · have d2 := side_no hH
      have HF : Hid (pfault W H zs = 1) := by
        show pfault W H zs = _
        unfold pfault; rw [if_pos (by unfold okSides; omega)]
      clear hz
      go_enter Tryd.func17, Tryd.ntmps17
      go_wp2_with fail
      refine (HS.out W _).mono ?_
      rintro e1 w1 ⟨rfl, rfl⟩
      rw [d1]
      go_wp2_with fail
      refine (HS.out H _).mono ?_
      rintro e2 w2 ⟨rfl, rfl⟩
      rw [d2]
      go_wp2_with fail
      go_ret
      exact ⟨congrArg Ending.returned (errV_mk HF.out (by decide)), (Below.refl w.heap.size w).alloc (Nat.le_refl _) _⟩
  · have d1 := side_no hW
    have HF : Hid (pfault W H zs = 1) := by
      show pfault W H zs = _
      unfold pfault; rw [if_pos (by unfold okSides; omega)]
    clear hz
    go_enter Tryd.func17, Tryd.ntmps17
    go_wp2_with fail
    refine (HS.out W _).mono ?_
    rintro e1 w1 ⟨rfl, rfl⟩
    rw [d1]
    go_wp2_with fail
    go_ret
    exact ⟨congrArg Ending.returned (errV_mk HF.out (by decide)), (Below.refl w.heap.size w).alloc (Nat.le_refl _) _⟩
end Bl
end Go.Proofs.YtgagophijmiceaaDoor
