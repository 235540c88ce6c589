/- WALK: counter.formOf, counter.line, counter.Check, edenref5.Code. -/
import Derived.Test.YtfhhnajnanlmgaaGreatDoorOps
import Derived.Test.YtfhhnajnanlmgaaGreatDoorErr
import Derived.Test.YtfhhnajnanlmgaaGreatDoorInts
import Derived.Test.YtfhhnajnanlmgaaGreatDoorOpenI
import Derived.Test.YtfhhnajnanlmgaaGreatDoorCrPl
import Derived.Test.YtfhhnajnanlmgaaGreatDoorChecked
import Derived.WalkSpells
import Derived.WalkLawsBesides
import Derived.Lib.Hide
import Derived.BigQuiet
import Derived.BigRegion
import Derived.Deep.QuietTactic
import Derived.Deep.DeepCutAuto
import Derived.Deep.CutBlock
import Derived.Deep.RegionHeld3
import Derived.Deep.RegionWith
import Derived.Deep.MidRow
import Derived.Laws.ResultCell
namespace Go.Proofs.YtfhhnajnanlmgaaGreatDoor
set_option linter.unusedSimpArgs false
set_option linter.unusedVariables false
open Go.RowKit
namespace Cr
open Tld Mem

theorem infoForm : (Tryz.prog.info? 65).map (·.size) = some 2 := by kernel_rfl
theorem infoIns : (Tryz.prog.info? 34).map (·.size) = some 4 := by kernel_rfl

theorem Row.set2 {w : World} {b : Nat} {T : TypeId} {x y : Value} (h : Row w b T [x, y]) (x' y' : Value) : Row ((w.setCell ⟨b, 0, none⟩ x').setCell ⟨b, 1, none⟩ y') b T [x', y'] := (h.set 0 x').set 1 y'
theorem below_set2 {w w1 : World} {b : Nat} (h : Below w.heap.size w w1) (hb : b = w.heap.size) (x y : Value) : Below w.heap.size w ((w1.setCell ⟨b, 0, none⟩ x).setCell ⟨b, 1, none⟩ y) :=
  (h.setCell (by rw [hb]; exact Nat.le_refl _) _).setCell (by rw [hb]; exact Nat.le_refl _) _
theorem form_ret {a : Act} {w w2 : World} {b : Nat} {s s' : ByteArray} {n n' : Int} {q q' : Bool} (h : Row w2 b 65 [.string s, .int .i64 n]) (ha : a.tmps.getD 2 undef = .pointer (some ⟨b, 0, none⟩)) (hq : a.tmps.getD 3 undef = .bool q) (hd : a.defers = []) (hb : Below w.heap.size w w2) (hs : s = s') (hn : n = n') (hq2 : q = q') :
    bodyPost Tryz.prog Tryz.f25 (fun e w' => e = .returned (.tuple #[.agg #[.string s', .int .i64 n'], .bool q']) ∧ Below w.heap.size w w') Exit.ret a w2 := by
  subst hs hn hq2
  have f0 := h.cell 0
  have f1 := h.cell 1
  dsimp only [List.getElem?_cons_succ, List.getElem?_cons_zero] at f0 f1
  refine bodyPost_ret (v := .tuple #[.agg #[.string s, .int .i64 n], .bool q]) ?_ hd ⟨rfl, hb⟩
  rw [results_cell_tmp rfl, ha, hq]
  go_simp
set_option maxHeartbeats 4000000 in
set_option maxRecDepth 1000000 in
theorem formOf_any (op : Int) (w : World) : Calls Tryz.prog 25 #[.int .i64 op] w fun e w' => e = .returned (.tuple #[.agg #[.string (wordOf op), .int .i64 (numsOf op)], .bool (known op)]) ∧ Below w.heap.size w w' := by
  go_enter Tryz.func25, Tryz.ntmps25
  go_upto_region 2 with fail
  have hB0 : Below w.heap.size w (w.alloc (.cells #[.string ⟨#[]⟩, .int .i64 0] 65)) := (Below.refl _ _).alloc (Nat.le_refl _) _
  have hB : Below w.heap.size w ((w.alloc (.cells #[.string ⟨#[]⟩, .int .i64 0] 65)).alloc (.cells #[.string ⟨#[]⟩, .int .i64 0, .string ⟨#[105, 110, 99]⟩, .int .i64 2, .string ⟨#[100, 101, 99]⟩, .int .i64 3, .string ⟨#[104, 97, 108, 116]⟩, .int .i64 0] 91)) := hB0.alloc hB0.size _
  have hR0 : Row (w.alloc (.cells #[.string ⟨#[]⟩, .int .i64 0] 65)) w.heap.size 65 [.string ⟨#[]⟩, .int .i64 0] := row_alloc w _ _
  have hR1 : Row ((w.alloc (.cells #[.string ⟨#[]⟩, .int .i64 0] 65)).alloc (.cells #[.string ⟨#[]⟩, .int .i64 0, .string ⟨#[105, 110, 99]⟩, .int .i64 2, .string ⟨#[100, 101, 99]⟩, .int .i64 3, .string ⟨#[104, 97, 108, 116]⟩, .int .i64 0] 91)) w.heap.size 65 [.string ⟨#[]⟩, .int .i64 0] := hR0.keep ((Below.refl _ _).alloc (Nat.le_refl _) _) (by simp)
  have hR2 := row_alloc (w.alloc (.cells #[.string ⟨#[]⟩, .int .i64 0] 65)) 91 [.string ⟨#[]⟩, .int .i64 0, .string ⟨#[105, 110, 99]⟩, .int .i64 2, .string ⟨#[100, 101, 99]⟩, .int .i64 3, .string ⟨#[104, 97, 108, 116]⟩, .int .i64 0]
  have HB := Lib.hid hB
  have HR1 := Lib.hid hR1
  have hs : (w.alloc (.cells #[.string ⟨#[]⟩, .int .i64 0] 65)).heap.size = w.heap.size + 1 := by simp
  rw [hs] at hR2
  have HR2 : Hid (Row ((w.alloc (.cells #[.string ⟨#[]⟩, .int .i64 0] 65)).alloc (.cells #[.string ⟨#[]⟩, .int .i64 0, .string ⟨#[105, 110, 99]⟩, .int .i64 2, .string ⟨#[100, 101, 99]⟩, .int .i64 3, .string ⟨#[104, 97, 108, 116]⟩, .int .i64 0] 91)) (w.heap.size + 1) 91 [.string ⟨#[]⟩, .int .i64 0, .string ⟨#[105, 110, 99]⟩, .int .i64 2, .string ⟨#[100, 101, 99]⟩, .int .i64 3, .string ⟨#[104, 97, 108, 116]⟩, .int .i64 0]) := Lib.hid hR2
  clear hB0 hB hR0 hR1 hR2 hs
  generalize ((w.alloc (.cells #[.string ⟨#[]⟩, .int .i64 0] 65)).alloc (.cells #[.string ⟨#[]⟩, .int .i64 0, .string ⟨#[105, 110, 99]⟩, .int .i64 2, .string ⟨#[100, 101, 99]⟩, .int .i64 3, .string ⟨#[104, 97, 108, 116]⟩, .int .i64 0] 91)) = w1 at *
  obtain ⟨b0, hb0⟩ : ∃ b0, b0 = w.heap.size := ⟨_, rfl⟩
  rw [← hb0] at HR1 HR2 ⊢
  have HB0 := Lib.hid hb0
  clear hb0
  have fr0 : w1.frozen? ⟨b0, 0, none⟩ = false := HR1.out.frozen 0
  have fr1 : w1.frozen? ⟨b0, 1, none⟩ = false := HR1.out.frozen 1
  have f0 := HR1.out.cell 0
  have f1 := HR1.out.cell 1
  dsimp only [List.getElem?_cons_succ, List.getElem?_cons_zero] at f0 f1
  by_cases h1 : op = 1
  · subst h1
    have l1 : w1.rangeAt (b0 + 1) 2 [.string ⟨#[105, 110, 99]⟩, .int .i64 2] := fun j v hv => by
      rw [HR2.out.cell]
      match j, hv with
      | 0, hv => simpa using hv
      | 1, hv => simpa using hv
      | j + 2, hv => simp at hv
    go_wp2_with (refine wpList_load_mid rfl 65 _ rfl (b0 + 1) 2 rfl _ _ l1 Tryz.underlying65 rfl infoForm ?_; clear l1)
    exact form_ret (Row.set2 HR1.out _ _) rfl rfl rfl (below_set2 HB.out HB0.out _ _) rfl rfl rfl
  · by_cases h2 : op = 2
    · subst h2
      have l1 : w1.rangeAt (b0 + 1) 4 [.string ⟨#[100, 101, 99]⟩, .int .i64 3] := fun j v hv => by
        rw [HR2.out.cell]
        match j, hv with
        | 0, hv => simpa using hv
        | 1, hv => simpa using hv
        | j + 2, hv => simp at hv
      go_wp2_with (refine wpList_load_mid rfl 65 _ rfl (b0 + 1) 4 rfl _ _ l1 Tryz.underlying65 rfl infoForm ?_; clear l1)
      exact form_ret (Row.set2 HR1.out _ _) rfl rfl rfl (below_set2 HB.out HB0.out _ _) rfl rfl rfl
    · by_cases h3 : op = 3
      · subst h3
        have l1 : w1.rangeAt (b0 + 1) 6 [.string ⟨#[104, 97, 108, 116]⟩, .int .i64 0] := fun j v hv => by
          rw [HR2.out.cell]
          match j, hv with
          | 0, hv => simpa using hv
          | 1, hv => simpa using hv
          | j + 2, hv => simp at hv
        go_wp2_with (refine wpList_load_mid rfl 65 _ rfl (b0 + 1) 6 rfl _ _ l1 Tryz.underlying65 rfl infoForm ?_; clear l1)
        exact form_ret (Row.set2 HR1.out _ _) rfl rfl rfl (below_set2 HB.out HB0.out _ _) rfl rfl rfl
      · by_cases hlo : op < 1
        · have d1 := decide_eq_true hlo
          clear hlo
          go_wp2_with fail
          exact form_ret (Row.set2 HR1.out _ _) rfl rfl rfl (below_set2 HB.out HB0.out _ _) (by unfold wordOf; rw [if_neg h1, if_neg h2, if_neg h3]) (by unfold numsOf; rw [if_neg h1, if_neg h2]) (by unfold known; symm; rw [decide_eq_false_iff_not]; omega)
        · have d1 := decide_eq_false hlo
          have d2 : decide (3 < op) = true := decide_eq_true (by omega)
          clear hlo
          go_wp2_with fail
          exact form_ret (Row.set2 HR1.out _ _) rfl rfl rfl (below_set2 HB.out HB0.out _ _) (by unfold wordOf; rw [if_neg h1, if_neg h2, if_neg h3]) (by unfold numsOf; rw [if_neg h1, if_neg h2]) (by unfold known; symm; rw [decide_eq_false_iff_not]; omega)
--MORE
set_option maxHeartbeats 1000000 in
theorem to_any (n : Int) (m b : Nat) (w : World) (h : w.cell? ⟨b, 0, none⟩ = some (.int .i64 (m : Nat))) : Calls Tryz.prog 56 #[.int .i64 n, .pointer (some ⟨b, 0, none⟩)] w fun e w' => e = .returned (.bool (decide (0 ≤ n ∧ n < m))) ∧ w' = w := by
  go_enter Tryz.func56, Tryz.ntmps56
  by_cases h0 : 0 ≤ n
  · have d0 := decide_eq_true h0
    by_cases h1 : n < m
    · have d1 := decide_eq_true h1
      have hd := Lib.hid (@decide_eq_true (0 ≤ n ∧ n < m) _ ⟨h0, h1⟩)
      clear h0 h1
      go_wp2_with fail
      go_ret
      exact ⟨by rw [hd.out]; rfl, rfl⟩
    · have d1 := decide_eq_false h1
      have hd := Lib.hid (@decide_eq_false (0 ≤ n ∧ n < m) _ (fun h => h1 h.2))
      clear h0 h1
      go_wp2_with fail
      go_ret
      exact ⟨by rw [hd.out]; rfl, rfl⟩
  · have d0 := decide_eq_false h0
    have hd := Lib.hid (@decide_eq_false (0 ≤ n ∧ n < m) _ (fun h => h0 h.1))
    clear h0
    go_wp2_with fail
    go_ret
    exact ⟨by rw [hd.out]; rfl, rfl⟩

/-- All of a chain's tests. -/
theorem line_spec {m : Nat} {op a t e : Int} {q : Bool} (h : q = true ↔ okI m op a t e) : q = decide (okI m op a t e) := by
  cases q
  · symm; rw [decide_eq_false_iff_not]; intro hh; cases h.2 hh
  · symm; rw [decide_eq_true_iff]; exact h.1 rfl

set_option maxHeartbeats 4000000 in
set_option maxRecDepth 1000000 in
theorem line_any (op a t e : Int) (m : Nat) (w : World) : Calls Tryz.prog 39 #[.agg #[.int .i64 op, .int .i64 a, .int .i64 t, .int .i64 e], .int .i64 m] w fun en w' => en = .returned (.bool (decide (okI m op a t e))) ∧ Below w.heap.size w w' := by
  go_enter Tryz.func39, Tryz.ntmps39
  go_upto_region 1 with fail
  have hB0 : Below w.heap.size w (w.alloc (.cells #[.int .i64 op, .int .i64 a, .int .i64 t, .int .i64 e] 34)) := (Below.refl _ _).alloc (Nat.le_refl _) _
  have hB : Below w.heap.size w ((w.alloc (.cells #[.int .i64 op, .int .i64 a, .int .i64 t, .int .i64 e] 34)).alloc (.cells #[.int .i64 m] 3)) := hB0.alloc hB0.size _
  have hR0 : Row (w.alloc (.cells #[.int .i64 op, .int .i64 a, .int .i64 t, .int .i64 e] 34)) w.heap.size 34 [.int .i64 op, .int .i64 a, .int .i64 t, .int .i64 e] := row_alloc w _ _
  have hR1 : Row ((w.alloc (.cells #[.int .i64 op, .int .i64 a, .int .i64 t, .int .i64 e] 34)).alloc (.cells #[.int .i64 m] 3)) w.heap.size 34 [.int .i64 op, .int .i64 a, .int .i64 t, .int .i64 e] := hR0.keep ((Below.refl _ _).alloc (Nat.le_refl _) _) (by simp)
  have hs : (w.alloc (.cells #[.int .i64 op, .int .i64 a, .int .i64 t, .int .i64 e] 34)).heap.size = w.heap.size + 1 := by simp
  have hs2 : ((w.alloc (.cells #[.int .i64 op, .int .i64 a, .int .i64 t, .int .i64 e] 34)).alloc (.cells #[.int .i64 m] 3)).heap.size = w.heap.size + 2 := by simp
  have hR2 := row_alloc (w.alloc (.cells #[.int .i64 op, .int .i64 a, .int .i64 t, .int .i64 e] 34)) 3 [.int .i64 m]
  rw [hs] at hR2
  have HB := Lib.hid hB
  have HR1 := Lib.hid hR1
  have HR2 : Hid (Row ((w.alloc (.cells #[.int .i64 op, .int .i64 a, .int .i64 t, .int .i64 e] 34)).alloc (.cells #[.int .i64 m] 3)) (w.heap.size + 1) 3 [.int .i64 m]) := Lib.hid hR2
  have HS2 := Lib.hid hs2
  clear hB0 hB hR0 hR1 hR2 hs hs2
  generalize ((w.alloc (.cells #[.int .i64 op, .int .i64 a, .int .i64 t, .int .i64 e] 34)).alloc (.cells #[.int .i64 m] 3)) = w1 at *
  obtain ⟨b0, hb0⟩ : ∃ b0, b0 = w.heap.size := ⟨_, rfl⟩
  rw [← hb0] at HR1 HR2 HS2 ⊢
  have HB0 := Lib.hid hb0
  clear hb0
  have r0 := HR1.out.cell 0
  dsimp only [List.getElem?_cons_zero] at r0
  go_wp2_with fail
  refine (formOf_any op w1).mono ?_
  rintro e1 w2 ⟨rfl, hb2⟩
  have HB := Lib.hid (HB.out.trans (hb2.mono HB.out.size))
  have HR1 := Lib.hid (HR1.out.keep hb2 HR1.out.lt)
  have HR2 := Lib.hid (HR2.out.keep hb2 HR2.out.lt)
  have hsz : b0 + 2 ≤ w2.heap.size := by have := hb2.size; rw [HS2.out] at this; exact this
  clear r0 hb2
  go_upto_region 3 with fail
  have hB3 : Below w2.heap.size w2 (w2.alloc (.cells #[.string (wordOf op), .int .i64 (numsOf op)] 65)) := (Below.refl _ _).alloc (Nat.le_refl _) _
  have HR3 := Lib.hid (row_alloc w2 65 [.string (wordOf op), .int .i64 (numsOf op)])
  have HB := Lib.hid (HB.out.trans (hB3.mono HB.out.size))
  have HR1 := Lib.hid (HR1.out.keep hB3 HR1.out.lt)
  have HR2 := Lib.hid (HR2.out.keep hB3 HR2.out.lt)
  clear hB3
  obtain ⟨b5, hb5⟩ : ∃ b5, b5 = w2.heap.size := ⟨_, rfl⟩
  have HR3 : Hid (Row (w2.alloc (.cells #[.string (wordOf op), .int .i64 (numsOf op)] 65)) w2.heap.size 65 [.string (wordOf op), .int .i64 (numsOf op)]) := HR3
  rw [← hb5] at HR3 ⊢
  clear hb5 hsz
  generalize w2.alloc (.cells #[.string (wordOf op), .int .i64 (numsOf op)] 65) = w3 at *
  have c1 := HR1.out.cell 1
  have c2 := HR1.out.cell 2
  have c3 := HR1.out.cell 3
  have c5 := HR3.out.cell 1
  have c0 := HR2.out.cell 0
  dsimp only [List.getElem?_cons_succ, List.getElem?_cons_zero] at c0 c1 c2 c3 c5
  have HT := Lib.hid (to_any t m (b0 + 1) w3 c0)
  have HE := Lib.hid (to_any e m (b0 + 1) w3 c0)
  clear c0
  have HBX : Hid (Below w.heap.size w w3) := HB
  by_cases h1 : op = 1
  · subst h1
    have en : numsOf 1 = 2 := rfl
    have ek : known 1 = true := rfl
    rw [en] at c5
    rw [ek]
    clear en ek
    by_cases p1 : 0 ≤ a
    · have dp1 := Lib.hid p1
      have ep1 := @decide_eq_true (0 ≤ a) _ p1
      clear p1
      by_cases p2 : a ≤ 3
      · have dp2 := Lib.hid p2
        have ep2 := @decide_eq_true (a ≤ 3) _ p2
        clear p2
        by_cases p3 : 0 ≤ t ∧ t < (m : Int)
        · have dp3 := Lib.hid p3
          have ep3 := @decide_eq_true (0 ≤ t ∧ t < (m : Int)) _ p3
          rw [ep3] at HT
          clear ep3
          clear p3
          by_cases p4 : e = 0
          · have dp4 := Lib.hid p4
            have ep4 : ((e : Int) == 0) = true := beq_iff_eq.2 p4
            clear p4
            go_wp2_with (first | (refine HT.out.mono ?_; rintro e9 w9 ⟨rfl, hw9⟩; rw [hw9]; clear HT))
            go_ret
            exact ⟨congrArg (fun z => Ending.returned (.bool z)) (line_spec ⟨fun _ => .inl ⟨rfl, dp1.out, dp2.out, dp3.out.1, dp3.out.2, dp4.out⟩, fun _ => rfl⟩), HBX.out⟩
          · have dp4 := Lib.hid p4
            have ep4 : ((e : Int) == 0) = false := beq_eq_false_iff_ne.2 p4
            clear p4
            go_wp2_with (first | (refine HT.out.mono ?_; rintro e9 w9 ⟨rfl, hw9⟩; rw [hw9]; clear HT))
            go_ret
            exact ⟨congrArg (fun z => Ending.returned (.bool z)) (line_spec ⟨fun h => (by cases h), fun h => (by have hd := dp4.out; unfold okI at h; omega)⟩), HBX.out⟩
        · have dp3 := Lib.hid p3
          have ep3 := @decide_eq_false (0 ≤ t ∧ t < (m : Int)) _ p3
          rw [ep3] at HT
          clear ep3
          clear p3
          go_wp2_with (first | (refine HT.out.mono ?_; rintro e9 w9 ⟨rfl, hw9⟩; rw [hw9]; clear HT))
          go_ret
          exact ⟨congrArg (fun z => Ending.returned (.bool z)) (line_spec ⟨fun h => (by cases h), fun h => (by have hd := dp3.out; unfold okI at h; omega)⟩), HBX.out⟩
      · have dp2 := Lib.hid p2
        have ep2 := @decide_eq_false (a ≤ 3) _ p2
        clear p2
        go_wp2_with (first | (refine HT.out.mono ?_; rintro e9 w9 ⟨rfl, hw9⟩; rw [hw9]; clear HT))
        go_ret
        exact ⟨congrArg (fun z => Ending.returned (.bool z)) (line_spec ⟨fun h => (by cases h), fun h => (by have hd := dp2.out; unfold okI at h; omega)⟩), HBX.out⟩
    · have dp1 := Lib.hid p1
      have ep1 := @decide_eq_false (0 ≤ a) _ p1
      clear p1
      go_wp2_with (first | (refine HT.out.mono ?_; rintro e9 w9 ⟨rfl, hw9⟩; rw [hw9]; clear HT))
      go_ret
      exact ⟨congrArg (fun z => Ending.returned (.bool z)) (line_spec ⟨fun h => (by cases h), fun h => (by have hd := dp1.out; unfold okI at h; omega)⟩), HBX.out⟩
  · by_cases h2 : op = 2
    · subst h2
      have en : numsOf 2 = 3 := rfl
      rw [en] at c5
      clear en h1
      by_cases p1 : 0 ≤ a
      · have dp1 := Lib.hid p1
        have ep1 := @decide_eq_true (0 ≤ a) _ p1
        clear p1
        by_cases p2 : a ≤ 3
        · have dp2 := Lib.hid p2
          have ep2 := @decide_eq_true (a ≤ 3) _ p2
          clear p2
          by_cases p3 : 0 ≤ t ∧ t < (m : Int)
          · have dp3 := Lib.hid p3
            have ep3 := @decide_eq_true (0 ≤ t ∧ t < (m : Int)) _ p3
            rw [ep3] at HT
            clear ep3
            clear p3
            by_cases p4 : 0 ≤ e ∧ e < (m : Int)
            · have dp4 := Lib.hid p4
              have ep4 := @decide_eq_true (0 ≤ e ∧ e < (m : Int)) _ p4
              rw [ep4] at HE
              clear ep4
              clear p4
              go_wp2_with (first | (refine HT.out.mono ?_; rintro e9 w9 ⟨rfl, hw9⟩; rw [hw9]; clear HT) | (refine HE.out.mono ?_; rintro e9 w9 ⟨rfl, hw9⟩; rw [hw9]; clear HE))
              go_ret
              exact ⟨congrArg (fun z => Ending.returned (.bool z)) (line_spec ⟨fun _ => .inr (.inl ⟨rfl, dp1.out, dp2.out, dp3.out.1, dp3.out.2, dp4.out.1, dp4.out.2⟩), fun _ => rfl⟩), HBX.out⟩
            · have dp4 := Lib.hid p4
              have ep4 := @decide_eq_false (0 ≤ e ∧ e < (m : Int)) _ p4
              rw [ep4] at HE
              clear ep4
              clear p4
              go_wp2_with (first | (refine HT.out.mono ?_; rintro e9 w9 ⟨rfl, hw9⟩; rw [hw9]; clear HT) | (refine HE.out.mono ?_; rintro e9 w9 ⟨rfl, hw9⟩; rw [hw9]; clear HE))
              go_ret
              exact ⟨congrArg (fun z => Ending.returned (.bool z)) (line_spec ⟨fun h => (by cases h), fun h => (by have hd := dp4.out; unfold okI at h; omega)⟩), HBX.out⟩
          · have dp3 := Lib.hid p3
            have ep3 := @decide_eq_false (0 ≤ t ∧ t < (m : Int)) _ p3
            rw [ep3] at HT
            clear ep3
            clear p3
            go_wp2_with (first | (refine HT.out.mono ?_; rintro e9 w9 ⟨rfl, hw9⟩; rw [hw9]; clear HT) | (refine HE.out.mono ?_; rintro e9 w9 ⟨rfl, hw9⟩; rw [hw9]; clear HE))
            go_ret
            exact ⟨congrArg (fun z => Ending.returned (.bool z)) (line_spec ⟨fun h => (by cases h), fun h => (by have hd := dp3.out; unfold okI at h; omega)⟩), HBX.out⟩
        · have dp2 := Lib.hid p2
          have ep2 := @decide_eq_false (a ≤ 3) _ p2
          clear p2
          go_wp2_with (first | (refine HT.out.mono ?_; rintro e9 w9 ⟨rfl, hw9⟩; rw [hw9]; clear HT) | (refine HE.out.mono ?_; rintro e9 w9 ⟨rfl, hw9⟩; rw [hw9]; clear HE))
          go_ret
          exact ⟨congrArg (fun z => Ending.returned (.bool z)) (line_spec ⟨fun h => (by cases h), fun h => (by have hd := dp2.out; unfold okI at h; omega)⟩), HBX.out⟩
      · have dp1 := Lib.hid p1
        have ep1 := @decide_eq_false (0 ≤ a) _ p1
        clear p1
        go_wp2_with (first | (refine HT.out.mono ?_; rintro e9 w9 ⟨rfl, hw9⟩; rw [hw9]; clear HT) | (refine HE.out.mono ?_; rintro e9 w9 ⟨rfl, hw9⟩; rw [hw9]; clear HE))
        go_ret
        exact ⟨congrArg (fun z => Ending.returned (.bool z)) (line_spec ⟨fun h => (by cases h), fun h => (by have hd := dp1.out; unfold okI at h; omega)⟩), HBX.out⟩
    · have en : numsOf op = 0 := by unfold numsOf; rw [if_neg h1, if_neg h2]
      rw [en] at c5
      clear en
      by_cases h3 : op = 3
      · subst h3
        have ek : known 3 = true := rfl
        rw [ek]
        clear ek h1 h2
        by_cases p1 : a = 0
        · have dp1 := Lib.hid p1
          have ep1 : ((a : Int) == 0) = true := beq_iff_eq.2 p1
          clear p1
          by_cases p2 : t = 0
          · have dp2 := Lib.hid p2
            have ep2 : ((t : Int) == 0) = true := beq_iff_eq.2 p2
            clear p2
            by_cases p3 : e = 0
            · have dp3 := Lib.hid p3
              have ep3 : ((e : Int) == 0) = true := beq_iff_eq.2 p3
              clear p3
              go_wp2_with fail
              go_ret
              exact ⟨congrArg (fun z => Ending.returned (.bool z)) (line_spec ⟨fun _ => .inr (.inr ⟨rfl, dp1.out, dp2.out, dp3.out⟩), fun _ => rfl⟩), HBX.out⟩
            · have dp3 := Lib.hid p3
              have ep3 : ((e : Int) == 0) = false := beq_eq_false_iff_ne.2 p3
              clear p3
              go_wp2_with fail
              go_ret
              exact ⟨congrArg (fun z => Ending.returned (.bool z)) (line_spec ⟨fun h => (by cases h), fun h => (by have hd := dp3.out; unfold okI at h; omega)⟩), HBX.out⟩
          · have dp2 := Lib.hid p2
            have ep2 : ((t : Int) == 0) = false := beq_eq_false_iff_ne.2 p2
            clear p2
            go_wp2_with fail
            go_ret
            exact ⟨congrArg (fun z => Ending.returned (.bool z)) (line_spec ⟨fun h => (by cases h), fun h => (by have hd := dp2.out; unfold okI at h; omega)⟩), HBX.out⟩
        · have dp1 := Lib.hid p1
          have ep1 : ((a : Int) == 0) = false := beq_eq_false_iff_ne.2 p1
          clear p1
          go_wp2_with fail
          go_ret
          exact ⟨congrArg (fun z => Ending.returned (.bool z)) (line_spec ⟨fun h => (by cases h), fun h => (by have hd := dp1.out; unfold okI at h; omega)⟩), HBX.out⟩
      · have ek : known op = false := by unfold known; rw [decide_eq_false_iff_not]; omega
        rw [ek]
        have hno : Hid (¬ okI m op a t e) := fun h => by
          rcases h with ⟨x, _⟩ | ⟨x, _⟩ | ⟨x, _⟩
          · exact h1 x
          · exact h2 x
          · exact h3 x
        clear ek h1 h2 h3
        go_wp2_with fail
        go_ret
        exact ⟨congrArg (fun z => Ending.returned (.bool z)) (line_spec ⟨fun h => (by cases h), fun h => absurd h hno.out⟩), HBX.out⟩
      --CHECK
theorem ins_range {w : World} {b off m : Nat} {f : Nat → Nat → Int} (h : Mem.Rows w (some ⟨b, off, none⟩) m 4 (fun i j => .int .i64 (f i j))) {i : Nat} (hi : i < m) : w.rangeAt b (off + i * 4) [.int .i64 (f i 0), .int .i64 (f i 1), .int .i64 (f i 2), .int .i64 (f i 3)] := fun j v hv => by
  obtain ⟨b', o', e, _, hc⟩ := h i hi
  cases e
  match j, hv with
  | 0, hv => simp only [List.getElem?_cons_zero, Option.some.injEq] at hv; rw [← hv]; exact hc 0 (by omega)
  | 1, hv => simp only [List.getElem?_cons_succ, List.getElem?_cons_zero, Option.some.injEq] at hv; rw [← hv]; exact hc 1 (by omega)
  | 2, hv => simp only [List.getElem?_cons_succ, List.getElem?_cons_zero, Option.some.injEq] at hv; rw [← hv]; exact hc 2 (by omega)
  | 3, hv => simp only [List.getElem?_cons_succ, List.getElem?_cons_zero, Option.some.injEq] at hv; rw [← hv]; exact hc 3 (by omega)
  | j + 4, hv => simp at hv

set_option maxHeartbeats 4000000 in
set_option maxRecDepth 1000000 in
theorem check_any (sa : Option Addr) (m c : Nat) (f : Nat → Nat → Int) (w : World) (hm : m ≤ 9223372036854775807) (hF : Mem.Rows w sa m 4 (fun i j => .int .i64 (f i j))) : Calls Tryz.prog 18 #[.slice sa m c] w fun e w' => e = .returned (errV (codeF f m)) ∧ Below w.heap.size w w' := by
  have HF := Lib.hid hF
  clear hF
  by_cases h0 : m = 0
  · subst h0
    have HE := Lib.hid (codeF_full (f := f) (m := 0) (by omega))
    go_enter Tryz.func18, Tryz.ntmps18
    go_wp2_with fail
    go_ret
    exact ⟨by rw [HE.out]; rfl, Below.refl _ _⟩
  have e0 : ((m : Int) == 0) = false := beq_eq_false_iff_ne.2 (by omega)
  have e0' := @decide_eq_false (m = 0) _ h0
  by_cases h12 : 12 < m
  · have HE := Lib.hid (codeF_full (f := f) (m := m) (.inr h12))
    have e1 := @decide_eq_true ((12 : Int) < (m : Int)) _ (by omega)
    go_enter Tryz.func18, Tryz.ntmps18
    go_wp2_with fail
    go_ret
    exact ⟨by rw [HE.out]; rfl, Below.refl _ _⟩
  have e1 := @decide_eq_false ((12 : Int) < (m : Int)) _ (by omega)
  go_enter Tryz.func18, Tryz.ntmps18
  go_wp2_with fail
  go_loopw [16] (fun v wr => ∃ i : Nat, i ≤ m ∧ v = .int .i64 i ∧ (∀ k, k < i → okAt f m k) ∧ Below w.heap.size w wr) (fun v _ => m - (RowKit.intOf v).toNat)
  case atStart => exact ⟨0, Nat.zero_le _, rfl, fun k hk => absurd hk (Nat.not_lt_zero _), Below.refl _ _⟩
  case round =>
    clear e0 e0' e1
    obtain ⟨i, hi, rfl, hok, hb⟩ := hrel
    have HOK := Lib.hid hok
    have HB := Lib.hid hb
    clear hok hb
    by_cases hlt : i < m
    · obtain ⟨b, off, rfl, hbl, hrest⟩ := HF.out i hlt
      clear hrest
      have l1 := ins_range ((HF.out).below HB.out (Nat.le_refl _)) hlt
      have hi2 : (i : Int) < (m : Int) := by omega
      have HI := Lib.hid hlt
      have HBD : Hid (¬ okAt f m i → codeF f m = 1) := fun h => codeF_bad (by omega) hlt h
      have HOK2 : Hid (okAt f m i → ∀ k, k < i + 1 → okAt f m k) := fun h k hk => by
        by_cases hki : k = i
        · subst hki; exact h
        · exact HOK.out k (by omega)
      have hio : okAt f m i ↔ okI m (f i 0) (f i 1) (f i 2) (f i 3) := Iff.rfl
      obtain ⟨x0, hx0⟩ : ∃ x, x = f i 0 := ⟨_, rfl⟩
      obtain ⟨x1, hx1⟩ : ∃ x, x = f i 1 := ⟨_, rfl⟩
      obtain ⟨x2, hx2⟩ : ∃ x, x = f i 2 := ⟨_, rfl⟩
      obtain ⟨x3, hx3⟩ : ∃ x, x = f i 3 := ⟨_, rfl⟩
      rw [← hx0, ← hx1, ← hx2, ← hx3] at l1 hio
      have HIO := Lib.hid hio
      clear hx0 hx1 hx2 hx3 hio
      have hrow : Row (wr.alloc (.cells #[.int .i64 x0, .int .i64 x1, .int .i64 x2, .int .i64 x3] 34)) wr.heap.size 34 [.int .i64 x0, .int .i64 x1, .int .i64 x2, .int .i64 x3] := row_alloc wr _ _
      have hbn2 : Below wr.heap.size wr (wr.alloc (.cells #[.int .i64 x0, .int .i64 x1, .int .i64 x2, .int .i64 x3] 34)) := (Below.refl _ _).alloc (Nat.le_refl _) _
      have HB := Lib.hid (HB.out.trans (hbn2.mono HB.out.size))
      have HE := Lib.hid hrow
      clear hbn2 hrow
      go_upto_region 6 with (refine wpList_load_mid rfl 34 _ rfl b (off + i * 4) rfl _ _ l1 Tryz.underlying34 rfl infoIns ?_; clear l1)
      obtain ⟨b7, hb7⟩ : ∃ b7, b7 = wr.heap.size := ⟨_, rfl⟩
      rw [← hb7] at HE ⊢
      clear hb7
      have HE : Hid (Row (wr.alloc (.cells #[.int .i64 x0, .int .i64 x1, .int .i64 x2, .int .i64 x3] 34)) b7 34 [.int .i64 x0, .int .i64 x1, .int .i64 x2, .int .i64 x3]) := HE
      generalize wr.alloc (.cells #[.int .i64 x0, .int .i64 x1, .int .i64 x2, .int .i64 x3] 34) = w2 at *
      have l2 : w2.rangeAt b7 0 [.int .i64 x0, .int .i64 x1, .int .i64 x2, .int .i64 x3] := fun j v hv => by
        rw [Nat.zero_add, HE.out.cell]; exact hv
      have HL := Lib.hid (line_any x0 x1 x2 x3 m w2)
      obtain ⟨q, hq⟩ : ∃ q, q = decide (okI m x0 x1 x2 x3) := ⟨_, rfl⟩
      rw [← hq] at HL
      have HQ := Lib.hid hq
      clear hq
      go_wp2_with (refine wpList_load_mid rfl 34 _ rfl b7 0 rfl _ _ l2 Tryz.underlying34 rfl infoIns ?_; clear l2)
      refine HL.out.mono ?_
      rintro e9 w9 ⟨rfl, hb9⟩
      have HB := Lib.hid (HB.out.trans (hb9.mono HB.out.size))
      clear hb9
      cases q
      · have hno : Hid (¬ okAt f m i) := fun h => of_decide_eq_false HQ.out.symm (HIO.out.1 h)
        go_wp2_with fail
        go_ret
        exact ⟨by rw [HBD.out hno.out]; rfl, HB.out⟩
      · have hyes : Hid (okAt f m i) := HIO.out.2 (of_decide_eq_true HQ.out.symm)
        go_wp2_with fail
        go_roundw
        case rel => exact ⟨i + 1, by omega, by go_num, HOK2.out hyes.out, HB.out⟩
        case measure => have := HI.out; simp [RowKit.intOf]; omega
    · have hlt2 : ¬ (i : Int) < (m : Int) := by omega
      have HE := Lib.hid (codeF_ok (f := f) (m := m) ⟨by omega, by omega, fun k hk => HOK.out k (by omega)⟩)
      go_wp2_with fail
      go_ret
      exact ⟨by rw [HE.out]; rfl, HB.out⟩
end Cr
end Go.Proofs.YtfhhnajnanlmgaaGreatDoor
