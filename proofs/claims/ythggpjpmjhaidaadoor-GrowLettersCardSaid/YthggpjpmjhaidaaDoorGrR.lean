/- WALKS: the reference's texts on words that grow (edenref7): letters, Images, Fault, Grow. -/
import Derived.Test.YthggpjpmjhaidaaDoorGrW
import Derived.Lib.AppendStr
namespace Go.Proofs.YthggpjpmjhaidaaDoor
open Go.RowKit
namespace Gr
open Tld Mem

set_option maxHeartbeats 1000000 in
theorem rletters_any (s : ByteArray) (n : Nat) (w : World) (hn : n ≤ 1000) (hs : s.size ≤ maxLen) :
    Calls Tryd.prog 38 #[.string s, .int .i64 n] w fun e w' => e = .returned (.bool (letters n s.data.toList)) ∧ w = w' := by
  unfold maxLen at hs
  go_enter Tryd.func38, Tryd.ntmps38
  go_wp2
  go_loop [5] (fun v => ∃ k : Nat, k ≤ s.size ∧ v = .int .i64 k ∧ letters n (s.data.toList.take k) = true) (fun v => s.size - (intOf v).toNat)
  case atStart => exact ⟨0, Nat.zero_le _, rfl, rfl⟩
  case round =>
    obtain ⟨k, hk, rfl, hl⟩ := hrel
    have HL := Lib.hid hl
    clear hl
    by_cases hlt : k < s.size
    · have hg : s[k]'hlt = s.data.toList.getD k 0 := get_getD s k hlt
      have hkl : k < s.data.toList.length := by rw [← Lib.size_eq]; exact hlt
      have hsn := fun h => letters_snoc (n := n) hkl HL.out h
      have hno := fun h => letters_no (n := n) hkl h
      have HS := Lib.hid hsn
      have HN := Lib.hid hno
      clear hsn hno hkl
      generalize s.data.toList.getD k 0 = x at *
      have hx : x.toNat < 256 := x.toNat_lt
      by_cases h1 : (x.toNat : Int) < 97
      · have e : isLetter n x = false := by unfold isLetter; simp; omega
        have HF := Lib.hid (HN.out e)
        clear e
        go_wp2
        go_ret
        exact ⟨congrArg Ending.returned (congrArg Value.bool HF.out.symm), rfl⟩
      · by_cases h2 : x.toNat < 97 + n
        · have e : isLetter n x = true := by unfold isLetter; simp; omega
          have HF := Lib.hid (HS.out e)
          clear e
          have h3 : ¬ ((n : Int) ≤ (x.toNat : Int) - 97) := by omega
          go_wp2
          go_round
          case rel => exact ⟨k + 1, by omega, by go_num, HF.out⟩
          case measure => simp [intOf]; omega
        · have e : isLetter n x = false := by unfold isLetter; simp; omega
          have HF := Lib.hid (HN.out e)
          clear e
          have h3 : (n : Int) ≤ (x.toNat : Int) - 97 := by omega
          go_wp2
          go_ret
          exact ⟨congrArg Ending.returned (congrArg Value.bool HF.out.symm), rfl⟩
    · have HF : Hid (letters n s.data.toList = true) := by
        have := HL.out
        rw [List.take_of_length_le (by rw [← Lib.size_eq]; omega)] at this
        exact this
      go_wp2
      go_ret
      exact ⟨congrArg Ending.returned (congrArg Value.bool HF.out.symm), rfl⟩

theorem retInt {a b : Int} (h : a = b) : Ending.returned (.int .i64 a) = .returned (.int .i64 b) := by rw [h]

set_option maxHeartbeats 2000000 in
theorem rimages_any (a : Option Addr) (n c : Nat) (ss : List ByteArray) (w : World) (hS : Sys w a n ss) :
    Calls Tryd.prog 13 #[.slice a n c] w fun e w' => e = .returned (.int .i64 (images ss)) ∧ w = w' := by
  have hc := hS.le
  unfold maxLen at hc
  have HN := Lib.hid hS.len
  by_cases h0 : n < 1
  · have HF := Lib.hid (images_range (ss := ss) (.inl (by rw [HN.out]; exact h0)))
    obtain rfl : n = 0 := by omega
    go_enter Tryd.func13, Tryd.ntmps13
    go_wp2
    go_ret
    exact ⟨retInt HF.out.symm, rfl⟩
  by_cases h8 : 8 < n
  · have HF := Lib.hid (images_range (ss := ss) (.inr (by rw [HN.out]; exact h8)))
    go_enter Tryd.func13, Tryd.ntmps13
    go_wp2
    go_ret
    exact ⟨retInt HF.out.symm, rfl⟩
  have HI : Hid (images ss = faults n ss) := by
    have := images_faults (ss := ss) (by rw [HN.out]; omega) (by rw [HN.out]; omega)
    rw [HN.out] at this
    exact this
  go_enter Tryd.func13, Tryd.ntmps13
  go_wp2
  go_loop [3] (fun v => ∃ k : Nat, k ≤ n ∧ v = .int .i64 k ∧ faults n ss = faults n (ss.drop k)) (fun v => n - (intOf v).toNat)
  case atStart => exact ⟨0, Nat.zero_le _, rfl, rfl⟩
  case round =>
    obtain ⟨k, hk, rfl, hf⟩ := hrel
    have HFS := Lib.hid hf
    clear hf
    by_cases hlt : k < n
    · have hks : k < ss.length := by rw [HN.out]; exact hlt
      have hsz : (ss.getD k ByteArray.empty).size ≤ maxLen := hS.mx _ (getD_mem_ss hks)
      have F1 := Lib.hid (faults_long hks HFS.out)
      have F2 := Lib.hid (faults_bad hks HFS.out)
      have F3 := Lib.hid (faults_next hks HFS.out)
      obtain ⟨b, off, rfl, hbl, hc⟩ := hS.cells k hlt
      dsimp only at hc
      clear hks
      generalize ss.getD k ByteArray.empty = s at *
      have HLT := Lib.hid (rletters_any s n w (by omega) hsz)
      unfold maxLen at hsz
      by_cases h12 : 12 < s.size
      · have HF := Lib.hid (HI.out.trans (F1.out h12))
        go_wp2
        go_ret
        exact ⟨retInt HF.out.symm, rfl⟩
      · by_cases hl : letters n s.data.toList = true
        · have HF := Lib.hid (F3.out h12 hl)
          have HL := Lib.hid hl
          clear hl
          go_wp2_with (go_at_call 38; refine HLT.out.mono ?_; rintro e1 w1 ⟨rfl, rfl⟩; rw [HL.out])
          go_round
          case rel => exact ⟨k + 1, by omega, by go_num, HF.out⟩
          case measure => simp [intOf]; omega
        · have HF := Lib.hid (HI.out.trans (F2.out h12 (eq_false_of_ne_true hl)))
          have HL := Lib.hid (eq_false_of_ne_true hl)
          clear hl
          go_wp2_with (go_at_call 38; refine HLT.out.mono ?_; rintro e1 w1 ⟨rfl, rfl⟩; rw [HL.out])
          go_ret
          exact ⟨retInt HF.out.symm, rfl⟩
    · have HF := Lib.hid (HI.out.trans (faults_end (by rw [HN.out]; omega) HFS.out))
      go_wp2
      go_ret
      exact ⟨retInt HF.out.symm, rfl⟩

set_option maxHeartbeats 2000000 in
theorem rfault_any (a : Option Addr) (n c : Nat) (ss : List ByteArray) (word : ByteArray) (k : Int) (w : World) (hS : Sys w a n ss) (hw : word.size ≤ maxLen) :
    Calls Tryd.prog 15 #[.slice a n c, .string word, .int .i64 k] w fun e w' => e = .returned (.int .i64 (fault ss word k)) ∧ w = w' := by
  have HW := Lib.hid hw
  have hle := hS.le
  unfold maxLen at hw hle
  by_cases h0 : images ss = 0
  · have H0 := Lib.hid h0
    have h8 : n ≤ 8 := by have := images_le h0; have := hS.len; omega
    clear h0
    have HIM : Hid (Calls Tryd.prog 13 #[.slice a n c] w fun e w' => e = .returned (.int .i64 0) ∧ w = w') := by
      have := rimages_any a n c ss w hS
      rw [H0.out] at this
      exact this
    by_cases h1 : 40000 < word.size
    · have HF := Lib.hid (fault_long (n := k) H0.out h1)
      go_enter Tryd.func15, Tryd.ntmps15
      go_wp2_with (go_at_call 13; refine HIM.out.mono ?_; rintro e1 w1 ⟨rfl, rfl⟩)
      go_ret
      exact ⟨retInt HF.out.symm, rfl⟩
    · have HLT := Lib.hid (rletters_any word n w (by omega) HW.out)
      by_cases h2 : letters ss.length word.data.toList = true
      · have H2 : Hid (letters n word.data.toList = true) := by rw [← hS.len]; exact h2
        by_cases h3 : k < 0 ∨ 60 < k
        · have HF := Lib.hid (fault_range H0.out h1 h2 h3)
          clear h2
          rcases h3 with h3 | h3
          all_goals
            go_enter Tryd.func15, Tryd.ntmps15
            go_wp2_with (first | (go_at_call 13; refine HIM.out.mono ?_; rintro e1 w1 ⟨rfl, rfl⟩) | (go_at_call 38; refine HLT.out.mono ?_; rintro e1 w1 ⟨rfl, rfl⟩; rw [H2.out]))
            go_ret
            exact ⟨retInt HF.out.symm, rfl⟩
        · have HF := Lib.hid (fault_none H0.out h1 h2 h3)
          have h4 : ¬ k < 0 := by omega
          have h5 : ¬ 60 < k := by omega
          clear h2 h3
          go_enter Tryd.func15, Tryd.ntmps15
          go_wp2_with (first | (go_at_call 13; refine HIM.out.mono ?_; rintro e1 w1 ⟨rfl, rfl⟩) | (go_at_call 38; refine HLT.out.mono ?_; rintro e1 w1 ⟨rfl, rfl⟩; rw [H2.out]))
          go_ret
          exact ⟨retInt HF.out.symm, rfl⟩
      · have HF := Lib.hid (fault_letters (n := k) H0.out h1 (eq_false_of_ne_true h2))
        have H2 : Hid (letters n word.data.toList = false) := by rw [← hS.len]; exact eq_false_of_ne_true h2
        clear h2
        go_enter Tryd.func15, Tryd.ntmps15
        go_wp2_with (first | (go_at_call 13; refine HIM.out.mono ?_; rintro e1 w1 ⟨rfl, rfl⟩) | (go_at_call 38; refine HLT.out.mono ?_; rintro e1 w1 ⟨rfl, rfl⟩; rw [H2.out]))
        go_ret
        exact ⟨retInt HF.out.symm, rfl⟩
  · have HF := Lib.hid (fault_images (word := word) (n := k) h0)
    have HIM := Lib.hid (rimages_any a n c ss w hS)
    have hne : (images ss != 0) = true := by rw [bne_iff_ne]; exact h0
    clear h0
    generalize images ss = f at *
    go_enter Tryd.func15, Tryd.ntmps15
    go_wp2_with (go_at_call 13; refine HIM.out.mono ?_; rintro e1 w1 ⟨rfl, rfl⟩)
    go_ret
    exact ⟨retInt HF.out.symm, rfl⟩
end Gr
end Go.Proofs.YthggpjpmjhaidaaDoor
