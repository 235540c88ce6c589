/- WALKS: package grow. -/
import Derived.Test.YthggpjpmjhaidaaChecked
import Derived.Test.YthggpjpmjhaidaaOps
import Derived.Test.YthggpjpmjhaidaaGrPl
import Derived.Test.YthggpjpmjhaidaaErr
import Derived.WalkKit
import Derived.WalkSpells
import Derived.WalkLawsBesides
import Derived.Lib.Hide
import Derived.BigQuiet
import Derived.Deep.QuietTactic
namespace Go.Proofs.Ythggpjpmjhaidaa
open Go.RowKit
namespace Gr
open Tld Mem

set_option maxHeartbeats 1000000 in
theorem letters_any (a : Option Addr) (n c : Nat) (s : ByteArray) (w : World) (hn : n ≤ 1000) (hs : s.size ≤ maxLen) :
    Calls Try.prog 47 #[.slice a n c, .string s] w fun e w' => e = .returned (.bool (letters n s.data.toList)) ∧ Below w.heap.size w w' := by
  unfold maxLen at hs
  have hz : s.size = s.data.toList.length := Lib.size_eq s
  have HZ := Lib.hid hz
  clear hz
  go_enter Try.func47, Try.ntmps47
  go_wp2_with (refine Ops.wpList_bytes _ rfl 9 69 5 _ rfl Try.underlying9 Try.underlying69 Try.underlying5 s rfl ?_; intro cap b C w1 hb hsl hbel hcell)
  have HC := Lib.hid hcell
  have HSL := Lib.hid hsl
  clear hcell hsl
  go_loop [10] (fun v => ∃ k : Nat, k ≤ s.size ∧ v = .int .i64 k ∧ letters n (s.data.toList.take k) = true) (fun v => s.size - (intOf v).toNat)
  case atStart => exact ⟨0, Nat.zero_le _, rfl, rfl⟩
  case round =>
    obtain ⟨k, hk, rfl, hl⟩ := hrel
    have HL := Lib.hid hl
    clear hl
    by_cases hlt : k < s.size
    · have hc : w1.cell? ⟨b, k, none⟩ = some (.int .u8 ((s.data.toList.getD k 0).toNat : Int)) := (HSL.out.cell k).trans (HC.out k hlt)
      have hkl : k < s.data.toList.length := by have := HZ.out; omega
      have hsn := fun h => letters_snoc (n := n) hkl HL.out h
      have hno := fun h => letters_no (n := n) hkl h
      have HS := Lib.hid hsn
      have HN := Lib.hid hno
      clear hsn hno hkl
      generalize s.data.toList.getD k 0 = x at *
      have hx : x.toNat < 256 := x.toNat_lt
      by_cases h1 : (x.toNat : Int) < 97
      · have e : isLetter n x = false := by unfold isLetter; simp; omega
        have HF := Lib.hid (HN.out e)
        clear e
        go_wp2
        go_ret
        exact ⟨congrArg Ending.returned (congrArg Value.bool HF.out.symm), hbel⟩
      · by_cases h2 : x.toNat < 97 + n
        · have e : isLetter n x = true := by unfold isLetter; simp; omega
          have HF := Lib.hid (HS.out e)
          clear e
          have h3 : ¬ ((n : Int) ≤ (x.toNat : Int) - 97) := by omega
          go_wp2
          go_round
          case rel => exact ⟨k + 1, by omega, by go_num, HF.out⟩
          case measure => simp [intOf]; omega
        · have e : isLetter n x = false := by unfold isLetter; simp; omega
          have HF := Lib.hid (HN.out e)
          clear e
          have h3 : (n : Int) ≤ (x.toNat : Int) - 97 := by omega
          go_wp2
          go_ret
          exact ⟨congrArg Ending.returned (congrArg Value.bool HF.out.symm), hbel⟩
    · have HF : Hid (letters n s.data.toList = true) := by
        have := HL.out
        rw [List.take_of_length_le (by rw [← HZ.out]; omega)] at this
        exact this
      go_wp2
      go_ret
      exact ⟨congrArg Ending.returned (congrArg Value.bool HF.out.symm), hbel⟩

set_option maxHeartbeats 2000000 in
theorem check1_any (a : Option Addr) (n c : Nat) (ss : List ByteArray) (w : World) (hn : ss.length = n) (hcell : Cells w a n (fun i => .string (ss.getD i ByteArray.empty))) (hmx : ∀ s ∈ ss, s.size ≤ maxLen) (hc : n ≤ maxLen) :
    Calls Try.prog 46 #[.slice a n c] w fun e w' => e = .returned (errV (images ss)) ∧ Below w.heap.size w w' := by
  unfold maxLen at hc
  have HN := Lib.hid hn
  clear hn
  by_cases h0 : n < 1
  · have HF := Lib.hid (errV_mk (m := 1) (images_range (ss := ss) (.inl (by rw [HN.out]; exact h0))) (by decide))
    obtain rfl : n = 0 := by omega
    go_enter Try.func46, Try.ntmps46
    go_wp2
    go_ret
    exact ⟨congrArg Ending.returned HF.out, Below.refl _ _⟩
  by_cases h8 : 8 < n
  · have HF := Lib.hid (errV_mk (m := 1) (images_range (ss := ss) (.inr (by rw [HN.out]; exact h8))) (by decide))
    go_enter Try.func46, Try.ntmps46
    go_wp2
    go_ret
    exact ⟨congrArg Ending.returned HF.out, Below.refl _ _⟩
  have HI : Hid (images ss = faults n ss) := by
    have := images_faults (ss := ss) (by rw [HN.out]; omega) (by rw [HN.out]; omega)
    rw [HN.out] at this
    exact this
  have HX := Lib.hid hcell
  have HM := Lib.hid hmx
  clear hcell hmx
  go_enter Try.func46, Try.ntmps46
  go_wp2
  go_loopw [16] (fun v wr => ∃ k : Nat, k ≤ n ∧ v = .int .i64 k ∧ faults n ss = faults n (ss.drop k) ∧ Below w.heap.size w wr) (fun v _ => n - (intOf v).toNat)
  case atStart => exact ⟨0, Nat.zero_le _, rfl, rfl, Below.refl _ _⟩
  case round =>
    obtain ⟨k, hk, rfl, hf, hbel⟩ := hrel
    have HFS := Lib.hid hf
    clear hf
    by_cases hlt : k < n
    · have hks : k < ss.length := by rw [HN.out]; exact hlt
      have hws : ss.getD k ByteArray.empty ∈ ss := by
        rw [List.getD_eq_getElem?_getD, List.getElem?_eq_getElem hks]; exact List.getElem_mem hks
      have hsz : (ss.getD k ByteArray.empty).size ≤ maxLen := HM.out _ hws
      have F1 := Lib.hid (faults_long hks HFS.out)
      have F2 := Lib.hid (faults_bad hks HFS.out)
      have F3 := Lib.hid (faults_next hks HFS.out)
      obtain ⟨b, off, rfl, hbl, hc⟩ := (HX.out.below hbel (Nat.le_refl _)) k hlt
      dsimp only at hc
      clear hws hks
      generalize ss.getD k ByteArray.empty = s at *
      have hlet := letters_any (some ⟨b, off, none⟩) n c s wr (by omega) hsz
      have HLT := Lib.hid hlet
      unfold maxLen at hsz
      clear hlet
      by_cases h12 : 12 < s.size
      · have HF := Lib.hid (errV_mk (m := 4) (HI.out.trans (F1.out h12)) (by decide))
        go_wp2
        go_ret
        exact ⟨congrArg Ending.returned HF.out, hbel⟩
      · by_cases hl : letters n s.data.toList = true
        · have HF := Lib.hid (F3.out h12 hl)
          have HL := Lib.hid hl
          clear hl
          go_wp2_with (go_at_call 47; refine HLT.out.mono ?_; rintro e1 w1 ⟨rfl, hb1⟩; rw [HL.out])
          go_roundw
          case rel => exact ⟨k + 1, by omega, by go_num, HF.out, hbel.trans (hb1.mono hbel.size)⟩
          case measure => simp [intOf]; omega
        · have HF := Lib.hid (errV_mk (m := 2) (HI.out.trans (F2.out h12 (eq_false_of_ne_true hl))) (by decide))
          have HL := Lib.hid (eq_false_of_ne_true hl)
          clear hl
          go_wp2_with (go_at_call 47; refine HLT.out.mono ?_; rintro e1 w1 ⟨rfl, hb1⟩; rw [HL.out])
          go_ret
          exact ⟨congrArg Ending.returned HF.out, hbel.trans (hb1.mono hbel.size)⟩
    · have HF := Lib.hid (errV_nil (HI.out.trans (faults_end (by rw [HN.out]; omega) HFS.out)))
      go_wp2
      go_ret
      exact ⟨congrArg Ending.returned HF.out, hbel⟩

theorem check1_ok (a : Option Addr) (n c : Nat) (ss : List ByteArray) (w : World) (hn : ss.length = n) (hcell : Cells w a n (fun i => .string (ss.getD i ByteArray.empty))) (hmx : ∀ s ∈ ss, s.size ≤ maxLen) (hc : n ≤ maxLen) (h : images ss = 0) :
    Calls Try.prog 46 #[.slice a n c] w fun e w' => e = .returned .nilIface ∧ Below w.heap.size w w' := by
  rw [← errV_zero h]; exact check1_any a n c ss w hn hcell hmx hc
theorem check1_bad (a : Option Addr) (n c : Nat) (ss : List ByteArray) (w : World) (hn : ss.length = n) (hcell : Cells w a n (fun i => .string (ss.getD i ByteArray.empty))) (hmx : ∀ s ∈ ss, s.size ≤ maxLen) (hc : n ≤ maxLen) (h : images ss ≠ 0) :
    Calls Try.prog 46 #[.slice a n c] w fun e w' => e = .returned (.iface 57 (.int .i64 (images ss))) ∧ Below w.heap.size w w' := by
  rw [← errV_some h]; exact check1_any a n c ss w hn hcell hmx hc

/-- What a walk over a substitution is told of it. -/
structure Sys (w : World) (a : Option Addr) (n : Nat) (ss : List ByteArray) : Prop where
  len : ss.length = n
  cells : Cells w a n (fun i => .string (ss.getD i ByteArray.empty))
  mx : ∀ s ∈ ss, s.size ≤ maxLen
  le : n ≤ maxLen
theorem Sys.below {w w' : World} {a : Option Addr} {n : Nat} {ss : List ByteArray} {B : Nat} (h : Sys w a n ss) (hb : Below B w w') (hB : w.heap.size ≤ B) : Sys w' a n ss := ⟨h.len, h.cells.below hb hB, h.mx, h.le⟩
theorem Sys.keep {w w' : World} {a : Option Addr} {n : Nat} {ss : List ByteArray} (h : Sys w a n ss) (hb : Below w.heap.size w w') : Sys w' a n ss := h.below hb (Nat.le_refl _)

set_option maxHeartbeats 2000000 in
theorem check_bad (a : Option Addr) (n c : Nat) (ss : List ByteArray) (word : ByteArray) (k : Int) (w : World) (hS : Sys w a n ss) (hw : word.size ≤ maxLen) (h : fault ss word k ≠ 0) :
    Calls Try.prog 35 #[.slice a n c, .string word, .int .i64 k] w fun e w' => e = .returned (.tuple #[.slice none 0 0, .iface 57 (.int .i64 (fault ss word k))]) ∧ Below w.heap.size w w' := by
  have HW := Lib.hid hw
  have HH := Lib.hid h
  unfold maxLen at hw
  clear h
  by_cases h0 : images ss = 0
  · have H0 := Lib.hid h0
    have h8 : n ≤ 8 := by have := images_le h0; have := hS.len; omega
    clear h0
    by_cases h1 : 40000 < word.size
    · have HF := Lib.hid (fault_long (n := k) H0.out h1)
      go_enter Try.func35, Try.ntmps35
      go_wp2_with (go_at_call 46; refine (check1_ok a n c ss _ hS.len hS.cells hS.mx hS.le H0.out).mono ?_; rintro e1 w1 ⟨rfl, hb1⟩)
      go_ret2
      exact ⟨by rw [HF.out]; rfl, hb1⟩
    · by_cases h2 : letters ss.length word.data.toList = true
      · have H2 : Hid (letters n word.data.toList = true) := by rw [← hS.len]; exact h2
        by_cases h3 : k < 0 ∨ 60 < k
        · have HF := Lib.hid (fault_range H0.out h1 h2 h3)
          clear h2
          rcases h3 with h3 | h3
          all_goals
            go_enter Try.func35, Try.ntmps35
            go_wp2_with (first | (go_at_call 46; refine (check1_ok a n c ss _ hS.len hS.cells hS.mx hS.le H0.out).mono ?_; rintro e1 w1 ⟨rfl, hb1⟩) | (go_at_call 47; refine (letters_any _ _ _ _ _ (by omega) HW.out).mono ?_; rintro e2 w2 ⟨rfl, hb2⟩; rw [H2.out]))
            go_ret2
            exact ⟨by rw [HF.out]; rfl, hb1.trans (hb2.mono hb1.size)⟩
        · exact absurd (fault_none H0.out h1 h2 h3) HH.out
      · have HF := Lib.hid (fault_letters (n := k) H0.out h1 (eq_false_of_ne_true h2))
        have H2 : Hid (letters n word.data.toList = false) := by rw [← hS.len]; exact eq_false_of_ne_true h2
        clear h2
        go_enter Try.func35, Try.ntmps35
        go_wp2_with (first | (go_at_call 46; refine (check1_ok a n c ss _ hS.len hS.cells hS.mx hS.le H0.out).mono ?_; rintro e1 w1 ⟨rfl, hb1⟩) | (go_at_call 47; refine (letters_any _ _ _ _ _ (by omega) HW.out).mono ?_; rintro e2 w2 ⟨rfl, hb2⟩; rw [H2.out]))
        go_ret2
        exact ⟨by rw [HF.out]; rfl, hb1.trans (hb2.mono hb1.size)⟩
  · have H0 := Lib.hid h0
    have HF := Lib.hid (fault_images (word := word) (n := k) h0)
    clear h0
    go_enter Try.func35, Try.ntmps35
    go_wp2_with (go_at_call 46; refine (check1_bad a n c ss _ hS.len hS.cells hS.mx hS.le H0.out).mono ?_; rintro e1 w1 ⟨rfl, hb1⟩)
    go_ret2
    exact ⟨by rw [HF.out]; rfl, hb1⟩

set_option maxHeartbeats 2000000 in
theorem check_ok (a : Option Addr) (n c : Nat) (ss : List ByteArray) (word : ByteArray) (k : Int) (w : World) (hS : Sys w a n ss) (hw : word.size ≤ maxLen) (h : fault ss word k = 0) :
    Calls Try.prog 35 #[.slice a n c, .string word, .int .i64 k] w fun e w' => e = .returned (.tuple #[.slice a n c, .nilIface]) ∧ Below w.heap.size w w' := by
  have HW := Lib.hid hw
  unfold maxLen at hw
  obtain ⟨h0, h1, h2, h3, h4⟩ := fault_zero h
  have h8 : n ≤ 8 := by have := images_le h0; have := hS.len; omega
  have H0 := Lib.hid h0
  have H2 : Hid (letters n word.data.toList = true) := by rw [← hS.len]; exact h2
  clear h h0 h2
  go_enter Try.func35, Try.ntmps35
  go_wp2_with (first | (go_at_call 46; refine (check1_ok a n c ss _ hS.len hS.cells hS.mx hS.le H0.out).mono ?_; rintro e1 w1 ⟨rfl, hb1⟩) | (go_at_call 47; refine (letters_any _ _ _ _ _ (by omega) HW.out).mono ?_; rintro e2 w2 ⟨rfl, hb2⟩; rw [H2.out]))
  go_ret2
  exact ⟨rfl, hb1.trans (hb2.mono hb1.size)⟩
end Gr
end Go.Proofs.Ythggpjpmjhaidaa
