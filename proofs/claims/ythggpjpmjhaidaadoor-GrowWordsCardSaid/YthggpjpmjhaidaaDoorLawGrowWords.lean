/- THE LAW GrowWords: its walk, out of its callees' contracts. -/
import Derived.Test.YthggpjpmjhaidaaDoorGrG
import Derived.Test.YthggpjpmjhaidaaDoorGrC
import Derived.Test.YthggpjpmjhaidaaDoorGrRG
import Derived.Test.YthggpjpmjhaidaaDoorGrRC
import Derived.Test.YthggpjpmjhaidaaDoorInts
import Derived.Test.YthggpjpmjhaidaaDoorSame
namespace Go.Proofs.YthggpjpmjhaidaaDoor
open Go.RowKit
namespace Gr
open Tld Mem

theorem ints_of_row {w : World} {q n : Nat} {T : TypeId} {cs : List Value} {f : Nat → Nat} (h : Row w q T cs) (hn : n ≤ 1000) (hc : ∀ i, i < n → cs[i]? = some (.int .i64 (f i : Nat))) :
    Ints.Is w (some ⟨q, 0, none⟩) n ((List.range n).map fun i => ((f i : Nat) : Int)) :=
  ⟨by simp, fun i hi => ⟨q, 0, rfl, h.lt, by rw [Nat.zero_add, h.cell i, hc i hi]; simp [hi, List.getD_eq_getElem?_getD]⟩, by unfold maxLen; omega⟩

theorem images_bd (ss : List ByteArray) : -1000 ≤ images ss ∧ images ss ≤ 1000 := by
  have hf : ∀ (n : Nat) (l : List ByteArray), -1000 ≤ faults n l ∧ faults n l ≤ 1000 := by
    intro n l
    induction l with
    | nil => simp [faults]
    | cons s r ih =>
      unfold faults
      split
      · omega
      · split
        · exact ih
        · omega
  unfold images
  split
  · omega
  · exact hf _ _
theorem fault_bd (ss : List ByteArray) (word : ByteArray) (k : Int) : -1000 ≤ fault ss word k ∧ fault ss word k ≤ 1000 := by
  unfold fault
  split
  · exact images_bd ss
  split
  · omega
  split
  · omega
  split
  · omega
  · omega

set_option maxHeartbeats 8000000 in
set_option maxRecDepth 100000 in
theorem growWords_bad (a : Option Addr) (n c : Nat) (ss : List ByteArray) (word : ByteArray) (k : Int) (w : World) (hS : Sys w a n ss) (hw : word.size ≤ maxLen) (hg : Laid w) (hf : fault ss word k ≠ 0) :
    Calls Tryd.prog 4 #[.slice a n c, .string word, .int .i64 k] w fun e w' => e = .returned (.bool true) ∧ Below w.heap.size w w' := by
  have HIM := Lib.hid (rimages_any a n c ss w hS)
  have HCK := Lib.hid (check1_any a n c ss w hS.len hS.cells hS.mx hS.le)
  have HF := Lib.hid hf
  have HW := Lib.hid hw
  have hb : (fault ss word k == 0) = false := by rw [beq_eq_false_iff_ne]; exact hf
  clear hf hw
  go_enter Tryd.func4, Tryd.ntmps4
  go_wp2_with fail
  refine HIM.out.mono ?_
  rintro e1 w1 ⟨rfl, rfl⟩
  go_wp2_with fail
  refine HCK.out.mono ?_
  rintro e1 w1 ⟨rfl, hb1⟩
  go_wp2_with fail
  refine (same_self (images ss) w1 (hg.keep hb1) (images_bd ss)).mono ?_
  rintro e2 w2 ⟨rfl, hb2⟩
  have hb2 := hb1.trans (hb2.mono hb1.size)
  go_wp2_with fail
  refine (rfault_any a n c ss word k w2 (hS.keep hb2) HW.out).mono ?_
  rintro e2 w2 ⟨rfl, rfl⟩
  go_wp2_with fail
  refine (grow_bad a n c ss word k _ (hS.keep hb2) HW.out HF.out).mono ?_
  rintro e3 w3 ⟨rfl, hb3⟩
  have hb3 := hb2.trans (hb3.mono hb2.size)
  go_wp2_with fail
  refine (same_iface _ _ (hg.keep hb3) (fault_bd ss word k) HF.out).mono ?_
  rintro e4 w4 ⟨rfl, hb4⟩
  have hb4 := hb3.trans (hb4.mono hb3.size)
  go_wp2_with fail
  refine (count_bad a n c ss word k _ (hS.keep hb4) HW.out HF.out).mono ?_
  rintro e5 w5 ⟨rfl, hb5⟩
  have hb5 := hb4.trans (hb5.mono hb4.size)
  go_wp2_with fail
  refine (same_iface _ _ (hg.keep hb5) (fault_bd ss word k) HF.out).mono ?_
  rintro e6 w6 ⟨rfl, hb6⟩
  have hb6 := hb5.trans (hb6.mono hb5.size)
  go_wp2_with fail
  refine (Ints.ints_any none none 0 0 0 0 [] [] w6 (Ints.Is.nil _) (Ints.Is.nil _)).mono ?_
  rintro e7 w7 ⟨rfl, hb7⟩
  have hb7 := hb6.trans (hb7.mono hb6.size)
  go_wp2_with fail
  go_ret
  exact ⟨rfl, hb7⟩

set_option maxHeartbeats 8000000 in
set_option maxRecDepth 100000 in
theorem growWords_ok (a : Option Addr) (n c : Nat) (ss : List ByteArray) (word : ByteArray) (k : Nat) (w : World) (hS : Sys w a n ss) (hw : word.size ≤ maxLen) (hg : Laid w) (hf : fault ss word k = 0) :
    Calls Tryd.prog 4 #[.slice a n c, .string word, .int .i64 k] w fun e w' => e = .returned (.bool true) ∧ Below w.heap.size w w' := by
  have HIM : Hid (Calls Tryd.prog 13 #[.slice a n c] w fun e w' => e = .returned (.int .i64 0) ∧ w = w') := by
    have := rimages_any a n c ss w hS
    rw [(fault_zero hf).1] at this
    exact this
  have HCK := Lib.hid (check1_ok a n c ss w hS.len hS.cells hS.mx hS.le (fault_zero hf).1)
  have HRF : Hid (∀ w2 : World, Sys w2 a n ss → Calls Tryd.prog 15 #[.slice a n c, .string word, .int .i64 k] w2 fun e w' => e = .returned (.int .i64 0) ∧ w2 = w') := fun w2 h2 => by
    have := rfault_any a n c ss word k w2 h2 hw
    rw [hf] at this
    exact this
  have hn8 := images_le (fault_zero hf).1
  rw [hS.len] at hn8
  have HF := Lib.hid hf
  have HW := Lib.hid hw
  clear hf hw
  go_enter Tryd.func4, Tryd.ntmps4
  go_wp2_with fail
  refine HIM.out.mono ?_
  rintro e1 w1 ⟨rfl, rfl⟩
  go_wp2_with fail
  refine HCK.out.mono ?_
  rintro e1 w1 ⟨rfl, hb1⟩
  go_wp2_with fail
  refine (same_nil w1 (hg.keep hb1)).mono ?_
  rintro e2 w2 ⟨rfl, hb2⟩
  have hb2 := hb1.trans (hb2.mono hb1.size)
  go_wp2_with fail
  refine (HRF.out w2 (hS.keep hb2)).mono ?_
  rintro e2 w2 ⟨rfl, rfl⟩
  go_wp2_with fail
  refine (grow_ok a n c ss word k _ (hS.keep hb2) HW.out HF.out).mono ?_
  rintro e3 w3 ⟨rfl, hb3⟩
  have hb3 := hb2.trans (hb3.mono hb2.size)
  have HRG : Hid (∀ w2 : World, Sys w2 a n ss → Calls Tryd.prog 17 #[.slice a n c, .string word, .int .i64 k] w2 fun e w' => e = .returned (textR (growTo ss k word.data.toList)) ∧ Below w2.heap.size w2 w') := fun w2 h2 => rgrow_any a n c ss word k w2 h2 HF.out
  have HCN : Hid (∀ w2 : World, Sys w2 a n ss → Calls Tryd.prog 18 #[.slice a n c, .string word, .int .i64 k] w2 fun e w' => (∃ v, e = .returned v ∧ CountIs (countTo ss k (cnt word.data.toList)) n w2.heap.size w' v) ∧ Below w2.heap.size w2 w') := fun w2 h2 => count_ok a n c ss word k w2 h2 HW.out HF.out
  have HRC : Hid (∀ w2 : World, Sys w2 a n ss → Calls Tryd.prog 19 #[.slice a n c, .string word, .int .i64 k] w2 fun e w' => (∃ v, e = .returned v ∧ CountR (countTo ss k (cnt word.data.toList)) n w2.heap.size w' v) ∧ Below w2.heap.size w2 w') := fun w2 h2 => rcount_any a n c ss word k w2 h2 HF.out
  generalize growTo ss k word.data.toList = o at *
  generalize countTo ss k (cnt word.data.toList) = r at *
  cases o
  all_goals
    unfold textV
    go_wp2_with fail
    refine (HRG.out w3 (hS.keep hb3)).mono ?_
    rintro e4 w4 ⟨rfl, hb4⟩
    have hb4 := hb3.trans (hb4.mono hb3.size)
    unfold textR
    go_wp2_with fail
    first
      | refine (same_iface 4 w4 (hg.keep hb4) (by omega) (by decide)).mono ?_
      | refine (same_nil w4 (hg.keep hb4)).mono ?_
    rintro e5 w5 ⟨rfl, hb5⟩
    have hb5 := hb4.trans (hb5.mono hb4.size)
    go_wp2_with fail
    refine (HCN.out w5 (hS.keep hb5)).mono ?_
    rintro e6 w6 ⟨⟨v, rfl, hv⟩, hb6⟩
    have hb6' := hb5.trans (hb6.mono hb5.size)
    cases r
    · obtain rfl : v = _ := hv
      go_wp2_with fail
      refine (HRC.out w6 (hS.keep hb6')).mono ?_
      rintro e7 w7 ⟨⟨u, rfl, hu⟩, hb7⟩
      have hb7' := hb6'.trans (hb7.mono hb6'.size)
      obtain rfl : u = _ := hu
      go_wp2_with fail
      refine (same_iface 4 w7 (hg.keep hb7') (by omega) (by decide)).mono ?_
      rintro e8 w8 ⟨rfl, hb8⟩
      have hb8 := hb7'.trans (hb8.mono hb7'.size)
      go_wp2_with fail
      refine (Ints.ints_any none none 0 0 0 0 [] [] w8 (Ints.Is.nil _) (Ints.Is.nil _)).mono ?_
      rintro e9 w9 ⟨rfl, hb9⟩
      have hb9 := hb8.trans (hb9.mono hb8.size)
      go_wp2_with fail
      go_ret
      exact ⟨rfl, hb9⟩
    · rename_i g
      obtain ⟨q, hq, rfl, hR⟩ := hv
      go_wp2_with fail
      refine (HRC.out w6 (hS.keep hb6')).mono ?_
      rintro e7 w7 ⟨⟨u, rfl, hu⟩, hb7⟩
      have hb7' := hb6'.trans (hb7.mono hb6'.size)
      obtain ⟨p, hp, rfl, hR2⟩ := hu
      have hI1 := ints_of_row (n := n) (hR.keep hb7 hR.lt) (by omega) (fun i hi => arr_get g (by omega))
      have hI2 := ints_of_row (n := n) hR2 (by omega) (fun i hi => arrN_get g hi)
      have HI1 := Lib.hid hI1
      have HI2 := Lib.hid hI2
      clear hI1 hI2
      go_wp2_with fail
      refine (same_nil w7 (hg.keep hb7')).mono ?_
      rintro e8 w8 ⟨rfl, hb8⟩
      have HJ1 := Lib.hid (HI1.out.keep hb8)
      have HJ2 := Lib.hid (HI2.out.keep hb8)
      have hb8 := hb7'.trans (hb8.mono hb7'.size)
      go_wp2_with fail
      refine (Ints.ints_any _ _ n n n n _ _ w8 HJ1.out HJ2.out).mono ?_
      rintro e9 w9 ⟨rfl, hb9⟩
      have hb9 := hb8.trans (hb9.mono hb8.size)
      rw [decide_eq_true rfl]
      go_wp2_with fail
      go_ret
      exact ⟨rfl, hb9⟩

theorem growWords_any (a : Option Addr) (n c : Nat) (ss : List ByteArray) (word : ByteArray) (k : Int) (w : World) (hS : Sys w a n ss) (hw : word.size ≤ maxLen) (hg : Laid w) :
    Calls Tryd.prog 4 #[.slice a n c, .string word, .int .i64 k] w fun e w' => e = .returned (.bool true) ∧ Below w.heap.size w w' := by
  by_cases hf : fault ss word k = 0
  · obtain ⟨k, rfl⟩ := Int.eq_ofNat_of_zero_le (fault_zero hf).2.2.2.1
    exact growWords_ok a n c ss word k w hS hw hg hf
  · exact growWords_bad a n c ss word k w hS hw hg hf
end Gr
end Go.Proofs.YthggpjpmjhaidaaDoor
