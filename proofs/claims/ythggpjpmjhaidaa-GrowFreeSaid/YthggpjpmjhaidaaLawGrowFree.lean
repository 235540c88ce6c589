/- THE LAW GrowFree: its walk, out of its callees' contracts. -/
import Derived.Test.YthggpjpmjhaidaaGrG
import Derived.Deep.DeepCutAuto
import Derived.Test.YthggpjpmjhaidaaGrC
import Derived.Test.YthggpjpmjhaidaaGrLW
import Derived.Test.YthggpjpmjhaidaaSqW
import Derived.Test.YthggpjpmjhaidaaGrFPl
namespace Go.Proofs.Ythggpjpmjhaidaa
open Go.RowKit
namespace SqF
open Sq Gr Mem Tld

/-- A list of words that the law writes. -/
theorem lit_sys (w : World) (T : TypeId) (ss : List ByteArray) (hn : ss.length ≤ maxLen) (hm : ∀ s ∈ ss, s.size ≤ maxLen) :
    Gr.Sys (w.alloc (.cells (ss.map Value.string).toArray T)) (some ⟨w.heap.size, 0, none⟩) ss.length ss := by
  have h := row_alloc w T (ss.map Value.string)
  refine ⟨rfl, fun i hi => ⟨w.heap.size, 0, rfl, h.lt, ?_⟩, hm, hn⟩
  rw [Nat.zero_add, h.cell i]
  simp [hi, List.getD_eq_getElem?_getD]
theorem below_lit {B : Nat} {w w' : World} (h : Below B w w') (hB : B ≤ w'.heap.size) (o : Obj) : Below B w (w'.alloc o) := h.alloc hB o
def fib : List ByteArray := [⟨#[97, 98]⟩, ⟨#[97]⟩]
theorem fib_ok : fault fib ⟨#[97]⟩ 4 = 0 := by decide +kernel
theorem one_le : (⟨#[97]⟩ : ByteArray).size ≤ maxLen := by unfold maxLen; decide
theorem fib_sys (w : World) (T : TypeId) : Gr.Sys (w.alloc (.cells #[.string ⟨#[97, 98]⟩, .string ⟨#[97]⟩] T)) (some ⟨w.heap.size, 0, none⟩) 2 fib :=
  lit_sys w T fib (by unfold maxLen; decide) (by intro s hs; simp [fib] at hs; rcases hs with rfl | rfl <;> (unfold maxLen; decide))
theorem tm_sys (w : World) (T : TypeId) : Gr.Sys (w.alloc (.cells #[.string ⟨#[97, 98]⟩, .string ⟨#[98, 97]⟩] T)) (some ⟨w.heap.size, 0, none⟩) 2 tm :=
  lit_sys w T tm (by unfold maxLen; decide) (by intro s hs; simp [tm] at hs; rcases hs with rfl | rfl <;> (unfold maxLen; decide))
theorem tern_sys (w : World) (T : TypeId) : Gr.Sys (w.alloc (.cells #[.string ⟨#[97, 98, 99]⟩, .string ⟨#[97, 99]⟩, .string ⟨#[98]⟩] T)) (some ⟨w.heap.size, 0, none⟩) 3 tern :=
  lit_sys w T tern (by unfold maxLen; decide) (by intro s hs; simp [tern] at hs; rcases hs with rfl | rfl | rfl <;> (unfold maxLen; decide))
theorem tm_ok {k : Int} (h0 : 0 ≤ k) (h1 : k ≤ 15) : fault tm ⟨#[97]⟩ k = 0 := fault_none (by decide +kernel) (by decide) (by decide) (by omega)
theorem tern_ok {k : Int} (h0 : 0 ≤ k) (h1 : k ≤ 15) : fault tern ⟨#[97]⟩ k = 0 := fault_none (by decide +kernel) (by decide) (by decide) (by omega)

theorem fib_calls (w : World) (T : TypeId) (c : Nat) :
    Calls Try.prog 17 #[.slice (some ⟨w.heap.size, 0, none⟩) 2 c, .string ⟨#[97]⟩, .int .i64 4] (w.alloc (.cells #[.string ⟨#[97, 98]⟩, .string ⟨#[97]⟩] T)) fun e w' => e = .returned (.tuple #[.string ⟨#[97, 98, 97, 97, 98, 97, 98, 97]⟩, .nilIface]) ∧ Below w.heap.size w w' := by
  refine (grow_ok (some ⟨w.heap.size, 0, none⟩) 2 c fib ⟨#[97]⟩ 4 _ (fib_sys w T) one_le fib_ok).mono ?_
  rintro e1 w1 ⟨rfl, hb1⟩
  exact ⟨congrArg Ending.returned (textV_some fib_fact), ((Below.refl _ _).alloc (Nat.le_refl _) _).trans (hb1.mono (by simp))⟩

theorem tm_calls {k : Nat} {A : List UInt8} (w : World) (T : TypeId) (c : Nat) (hA : growTo tm k [97] = some A) (hk : (k : Int) ≤ 15) :
    Calls Try.prog 17 #[.slice (some ⟨w.heap.size, 0, none⟩) 2 c, .string ⟨#[97]⟩, .int .i64 k] (w.alloc (.cells #[.string ⟨#[97, 98]⟩, .string ⟨#[98, 97]⟩] T)) fun e w' => e = .returned (.tuple #[.string ⟨A.toArray⟩, .nilIface]) ∧ Below w.heap.size w w' := by
  refine (grow_ok (some ⟨w.heap.size, 0, none⟩) 2 c tm ⟨#[97]⟩ k _ (tm_sys w T) one_le (tm_ok (by omega) hk)).mono ?_
  rintro e1 w1 ⟨rfl, hb1⟩
  exact ⟨congrArg Ending.returned (textV_some hA), ((Below.refl _ _).alloc (Nat.le_refl _) _).trans (hb1.mono (by simp))⟩
theorem tern_calls {k : Nat} (w : World) (T : TypeId) (c : Nat) (hk : (k : Int) ≤ 15) :
    Calls Try.prog 17 #[.slice (some ⟨w.heap.size, 0, none⟩) 3 c, .string ⟨#[97]⟩, .int .i64 k] (w.alloc (.cells #[.string ⟨#[97, 98, 99]⟩, .string ⟨#[97, 99]⟩, .string ⟨#[98]⟩] T)) fun e w' => e = .returned (textV (growTo tern k [97])) ∧ Below w.heap.size w w' := by
  refine (grow_ok (some ⟨w.heap.size, 0, none⟩) 3 c tern ⟨#[97]⟩ k _ (tern_sys w T) one_le (tern_ok (by omega) hk)).mono ?_
  rintro e1 w1 ⟨rfl, hb1⟩
  exact ⟨rfl, ((Below.refl _ _).alloc (Nat.le_refl _) _).trans (hb1.mono (by simp))⟩

theorem cut_ex (A : List UInt8) : (⟨A.toArray⟩ : ByteArray).extract 0 1200 = cut A := by
  apply ByteArray.ext
  simp [cut, List.take_eq_take_min]
theorem cut_short {A : List UInt8} (h : (A.length : Int) ≤ 1200) : (⟨A.toArray⟩ : ByteArray) = cut A := by
  unfold cut
  rw [List.take_of_length_le]
  omega
theorem below_drew {B : Nat} {w w1 w2 : World} (h : Below B w w1) (d : Drew w1 w2) : Below B w w2 := by
  obtain ⟨k, rfl⟩ := d
  exact below_drewN h k
theorem ov_calls (s : ByteArray) (w : World) (h : NoneTo s 1 (s.size + 1)) :
    Calls Try.prog 9 #[.string s] w fun e w' => e = .returned (.tuple #[.int .i64 0, .int .i64 0, .bool false]) ∧ Drew w w' := by
  refine (overlap_any s w).mono ?_
  rintro e1 w1 ⟨rfl, d1⟩
  unfold frv
  rw [fr_none h]
  exact ⟨rfl, d1⟩
theorem sq_calls (s : ByteArray) (w : World) (h : NoneTo s 0 (s.size + 1)) :
    Calls Try.prog 7 #[.string s] w fun e w' => e = .returned (.tuple #[.int .i64 0, .int .i64 0, .bool false]) ∧ Drew w w' := by
  refine (square_any s w).mono ?_
  rintro e1 w1 ⟨rfl, d1⟩
  unfold frv
  rw [fr_none h]
  exact ⟨rfl, d1⟩

theorem cnt_take {s : ByteArray} {t : Nat} (i : Nat) (h : t < s.size) : cnt (s.data.toList.take (t + 1)) i = cnt (s.data.toList.take t) i + if (at_ s t).toNat = 97 + i then 1 else 0 := by
  rw [take_snoc (by rw [← Lib.size_eq]; exact h), cnt_snoc]; rfl

theorem extract_one {s : ByteArray} {i : Nat} (h : i < s.size) : s.extract i (i + 1) = ⟨#[s.data.toList.getD i 0]⟩ := by
  apply ByteArray.ext
  apply Array.toList_inj.1
  have h' : i < s.data.toList.length := by rw [← Lib.size_eq]; exact h
  simp only [ByteArray.data_extract, Array.toList_extract, List.extract_eq_take_drop]
  rw [List.drop_eq_getElem_cons h', List.getD_eq_getElem?_getD, List.getElem?_eq_getElem h']
  simp

set_option maxHeartbeats 40000000 in
set_option maxRecDepth 1000000 in
theorem growFree_bad (a : Option Addr) (n c : Nat) (ss : List ByteArray) (word : ByteArray) (k m at_ : Int) (w : World) (hS : Gr.Sys w a n ss) (hw : word.size ≤ maxLen) (hf : fault ss word k ≠ 0) :
    Calls Try.prog 6 #[.slice a n c, .string word, .int .i64 k, .int .i64 m, .int .i64 at_] w fun e w' => e = .returned (.bool true) ∧ Below w.heap.size w w' := by
  have HG := Lib.hid (fun (w2 : World) (h2 : Gr.Sys w2 a n ss) => grow_bad a n c ss word k w2 h2 hw hf)
  have HE := Lib.hid hf
  clear hf
  go_enter Try.func6, Try.ntmps6
  go_wp2_with fail
  refine (fib_calls w _ _).mono ?_
  rintro e1 w1 ⟨rfl, hb1⟩
  by_cases hk : 0 ≤ (k : Int) ∧ (k : Int) ≤ 15
  case' pos =>
    obtain ⟨hk0, hk1⟩ := hk
    obtain ⟨k, rfl⟩ := Int.eq_ofNat_of_zero_le hk0
    obtain ⟨A, hA⟩ := Option.isSome_iff_exists.1 (tm_some k (by omega))
    go_wp2_with fail
    refine (tm_calls (k := k) (A := A) w1 _ _ hA hk1).mono ?_
    rintro e2 w2 ⟨rfl, hb2⟩
    have hb2 := hb1.trans (hb2.mono hb1.size)
    have HT := Lib.hid (fun T c => tern_calls (k := k) w2 T c hk1)
    have HNA := Lib.hid (growTo_is hA ▸ tm_none k)
    by_cases hB : growTo tern k [97] = none
    case' pos =>
      have h14 : ¬ (k : Int) ≤ 14 := fun h => by
        have := tern_some k (by omega)
        rw [hB] at this
        exact Bool.noConfusion this
      rw [hB] at HT
      have HNB := Lib.hid (none_empty 0)
      go_wp2_with fail
      refine (HT.out _ _).mono ?_
      rintro e3 w3 ⟨rfl, hb3⟩
      have hb3 := hb2.trans (hb3.mono hb2.size)
      unfold textV
      clear hA hB HT
      go_wp2_with fail
    case' neg =>
      obtain ⟨B, hB⟩ := Option.ne_none_iff_exists'.1 hB
      rw [hB] at HT
      have HNB := Lib.hid (growTo_is hB ▸ tern_none k)
      go_wp2_with fail
      refine (HT.out _ _).mono ?_
      rintro e3 w3 ⟨rfl, hb3⟩
      have hb3 := hb2.trans (hb3.mono hb2.size)
      unfold textV
      clear hA hB HT
      go_wp2_with fail
    all_goals
      refine (ov_calls _ _ (by first | (rw [cut_ex]; exact HNA.out) | (rw [cut_short (by assumption)]; exact HNA.out))).mono ?_
      rintro e4 w4 ⟨rfl, d4⟩
      have hb4 := below_drew hb3 d4
      go_wp2_with fail
      refine (sq_calls _ _ (by first | exact HNB.out | (rw [cut_ex]; exact HNB.out) | (rw [cut_short (by assumption)]; exact HNB.out))).mono ?_
      rintro e5 w5 ⟨rfl, d5⟩
      have hb5 := below_drew hb4 d5
      go_wp2_with fail
  case' neg =>
    have hb5 := hb1
    go_wp2_with fail
  all_goals
    refine (HG.out _ (hS.keep hb5)).mono ?_
    rintro e6 w6 ⟨rfl, hb6⟩
    have hb6 := hb5.trans (hb6.mono hb5.size)
    go_wp2_with fail
    go_ret
    exact ⟨rfl, hb6⟩

set_option maxHeartbeats 40000000 in
set_option maxRecDepth 1000000 in
theorem growFree_full (a : Option Addr) (n c : Nat) (ss : List ByteArray) (word : ByteArray) (k : Nat) (m at_ : Int) (w : World) (hS : Gr.Sys w a n ss) (hw : word.size ≤ maxLen) (hf : fault ss word k = 0) (hg : growTo ss k word.data.toList = none) :
    Calls Try.prog 6 #[.slice a n c, .string word, .int .i64 k, .int .i64 m, .int .i64 at_] w fun e w' => e = .returned (.bool true) ∧ Below w.heap.size w w' := by
  have HG := Lib.hid (fun (w2 : World) (h2 : Gr.Sys w2 a n ss) => grow_ok a n c ss word k w2 h2 hw hf)
  rw [hg] at HG
  clear hf hg
  go_enter Try.func6, Try.ntmps6
  go_wp2_with fail
  refine (fib_calls w _ _).mono ?_
  rintro e1 w1 ⟨rfl, hb1⟩
  by_cases hk : 0 ≤ (k : Int) ∧ (k : Int) ≤ 15
  case' pos =>
    obtain ⟨hk0, hk1⟩ := hk
    obtain ⟨A, hA⟩ := Option.isSome_iff_exists.1 (tm_some k (by omega))
    go_wp2_with fail
    refine (tm_calls (k := k) (A := A) w1 _ _ hA hk1).mono ?_
    rintro e2 w2 ⟨rfl, hb2⟩
    have hb2 := hb1.trans (hb2.mono hb1.size)
    have HT := Lib.hid (fun T c => tern_calls (k := k) w2 T c hk1)
    have HNA := Lib.hid (growTo_is hA ▸ tm_none k)
    by_cases hB : growTo tern k [97] = none
    case' pos =>
      have h14 : ¬ (k : Int) ≤ 14 := fun h => by
        have := tern_some k (by omega)
        rw [hB] at this
        exact Bool.noConfusion this
      rw [hB] at HT
      have HNB := Lib.hid (none_empty 0)
      go_wp2_with fail
      refine (HT.out _ _).mono ?_
      rintro e3 w3 ⟨rfl, hb3⟩
      have hb3 := hb2.trans (hb3.mono hb2.size)
      unfold textV
      clear hA hB HT
      go_wp2_with fail
    case' neg =>
      obtain ⟨B, hB⟩ := Option.ne_none_iff_exists'.1 hB
      rw [hB] at HT
      have HNB := Lib.hid (growTo_is hB ▸ tern_none k)
      go_wp2_with fail
      refine (HT.out _ _).mono ?_
      rintro e3 w3 ⟨rfl, hb3⟩
      have hb3 := hb2.trans (hb3.mono hb2.size)
      unfold textV
      clear hA hB HT
      go_wp2_with fail
    all_goals
      refine (ov_calls _ _ (by first | (rw [cut_ex]; exact HNA.out) | (rw [cut_short (by assumption)]; exact HNA.out))).mono ?_
      rintro e4 w4 ⟨rfl, d4⟩
      have hb4 := below_drew hb3 d4
      go_wp2_with fail
      refine (sq_calls _ _ (by first | exact HNB.out | (rw [cut_ex]; exact HNB.out) | (rw [cut_short (by assumption)]; exact HNB.out))).mono ?_
      rintro e5 w5 ⟨rfl, d5⟩
      have hb5 := below_drew hb4 d5
      go_wp2_with fail
  case' neg =>
    have hb5 := hb1
    go_wp2_with fail
  all_goals
    refine (HG.out _ (hS.keep hb5)).mono ?_
    rintro e6 w6 ⟨rfl, hb6⟩
    have hb6 := hb5.trans (hb6.mono hb5.size)
    unfold textV
    go_wp2_with fail
    go_ret
    exact ⟨rfl, hb6⟩

set_option maxHeartbeats 40000000 in
set_option maxRecDepth 1000000 in
theorem growFree_ok (a : Option Addr) (n c : Nat) (ss : List ByteArray) (word : ByteArray) (k : Nat) (m pos : Int) (w : World) (s : ByteArray) (hS : Gr.Sys w a n ss) (hw : word.size ≤ maxLen) (hf : fault ss word k = 0) (hm63 : m ≤ 9223372036854775807) (hg : growTo ss k word.data.toList = some s.data.toList) :
    Calls Try.prog 6 #[.slice a n c, .string word, .int .i64 k, .int .i64 m, .int .i64 pos] w fun e w' => e = .returned (.bool true) ∧ Below w.heap.size w w' := by
  obtain ⟨h0, h1, h2, _, h4⟩ := fault_zero hf
  have hn8 := images_le h0
  rw [hS.len] at hn8
  obtain ⟨hn1, hn2⟩ := hn8
  have hcount := count_of_grow h0 h2 hg
  have hR := growTo_is hg
  have hz : s.size = s.data.toList.length := Lib.size_eq s
  have hlet : letters ss.length s.data.toList = true := by rw [hR]; exact growI_letters h0 k h2
  have hlen : s.size ≤ 40000 := by rw [hz]; exact growTo_le (by rw [← Lib.size_eq]; exact h1) hg
  have HLEN := Lib.hid hlen
  have HLET := Lib.hid hlet
  have HG : Hid (∀ w2 : World, Gr.Sys w2 a n ss → Calls Try.prog 17 #[.slice a n c, .string word, .int .i64 k] w2 fun e w' => e = .returned ((.tuple #[.string s, .nilIface])) ∧ Below w2.heap.size w2 w') := fun w2 h2 => by
    have h := grow_ok a n c ss word k w2 h2 hw hf
    rw [hg] at h
    exact h
  have HCN : Hid (∀ w2 : World, Gr.Sys w2 a n ss → Calls Try.prog 18 #[.slice a n c, .string word, .int .i64 k] w2 fun e w' => (∃ v, e = .returned v ∧ CountIs (some (cnt s.data.toList)) n w2.heap.size w' v) ∧ Below w2.heap.size w2 w') := fun w2 h2 => by
    rw [← hcount]; exact count_ok a n c ss word k w2 h2 hw hf
  have hsum : sumTo (cnt s.data.toList) n = s.size := by rw [← hS.len, hz]; exact sumTo_cnt hlet
  have HSUM := Lib.hid hsum
  have HL : Hid (∀ (i : Nat) (w2 : World), Gr.Sys w2 a n ss → i < s.size → Calls Try.prog 19 #[.slice a n c, .string word, .int .i64 k, .int .i64 i] w2 fun e w' => e = .returned (.tuple #[.string ⟨#[s.data.toList.getD i 0]⟩, .nilIface]) ∧ Below w2.heap.size w2 w') := fun i w2 h2 hi =>
    letter_ok a n c ss word k i (cnt s.data.toList) (s.data.toList.getD i 0) w2 h2 hw hf hcount (by rw [hsum]; unfold most; omega) (by rw [hsum]; exact hi) ⟨by unfold lenW; rw [← hR, ← hz]; exact hi, by rw [← hR]⟩
  have HF : Hid (∀ (j : Nat) (w2 : World), Gr.Sys w2 a n ss → (k : Int) ≤ 60 - (j : Int) → Calls Try.prog 17 #[.slice a n c, .string s, .int .i64 j] w2 fun e w' => e = .returned (textV (growTo ss j s.data.toList)) ∧ Below w2.heap.size w2 w') := fun j w2 h2 hj =>
    grow_ok a n c ss s j w2 h2 (by unfold maxLen; omega) (fault_none h0 (by omega) hlet (by omega))
  have HU : Hid (∀ (j : Nat) (w2 : World), Gr.Sys w2 a n ss → (k : Int) ≤ 60 - (j : Int) → Calls Try.prog 17 #[.slice a n c, .string word, .int .i64 ((k : Int) + (j : Int))] w2 fun e w' => e = .returned (textV (growTo ss j s.data.toList)) ∧ Below w2.heap.size w2 w') := fun j w2 h2 hj => by
    rw [← growTo_add j hg]
    exact grow_ok a n c ss word (k + j) w2 h2 hw (fault_none h0 (by omega) (by assumption) (by omega))
  clear hf hg hcount hR hlet hlen hsum h0 h1 h2 hz
  go_enter Try.func6, Try.ntmps6
  go_wp2_with fail
  refine (fib_calls w _ _).mono ?_
  rintro e1 w1 ⟨rfl, hb1⟩
  go_upto_if 53 with fail
  go_cut [] (fun wx => Below w.heap.size w wx)
  case first =>
   by_cases hk : 0 ≤ (k : Int) ∧ (k : Int) ≤ 15
   case' pos =>
     obtain ⟨hk0, hk1⟩ := hk
     obtain ⟨A, hA⟩ := Option.isSome_iff_exists.1 (tm_some k (by omega))
     go_wp2_with fail
     refine (tm_calls (k := k) (A := A) w1 _ _ hA hk1).mono ?_
     rintro e2 w2 ⟨rfl, hb2⟩
     have hb2 := hb1.trans (hb2.mono hb1.size)
     have HT := Lib.hid (fun T c => tern_calls (k := k) w2 T c hk1)
     have HNA := Lib.hid (growTo_is hA ▸ tm_none k)
     by_cases hB : growTo tern k [97] = none
     case' pos =>
       have h14 : ¬ (k : Int) ≤ 14 := fun h => by
         have := tern_some k (by omega)
         rw [hB] at this
         exact Bool.noConfusion this
       rw [hB] at HT
       have HNB := Lib.hid (none_empty 0)
       go_wp2_with fail
       refine (HT.out _ _).mono ?_
       rintro e3 w3 ⟨rfl, hb3⟩
       have hb3 := hb2.trans (hb3.mono hb2.size)
       unfold textV
       clear hA hB HT
       go_wp2_with fail
     case' neg =>
       obtain ⟨B, hB⟩ := Option.ne_none_iff_exists'.1 hB
       rw [hB] at HT
       have HNB := Lib.hid (growTo_is hB ▸ tern_none k)
       go_wp2_with fail
       refine (HT.out _ _).mono ?_
       rintro e3 w3 ⟨rfl, hb3⟩
       have hb3 := hb2.trans (hb3.mono hb2.size)
       unfold textV
       clear hA hB HT
       go_wp2_with fail
     all_goals
       refine (ov_calls _ _ (by first | (rw [cut_ex]; exact HNA.out) | (rw [cut_short (by assumption)]; exact HNA.out))).mono ?_
       rintro e4 w4 ⟨rfl, d4⟩
       have hb4 := below_drew hb3 d4
       go_wp2_with fail
       refine (sq_calls _ _ (by first | exact HNB.out | (rw [cut_ex]; exact HNB.out) | (rw [cut_short (by assumption)]; exact HNB.out))).mono ?_
       rintro e5 w5 ⟨rfl, d5⟩
       have hb5 := below_drew hb4 d5
       go_wp2_with fail
   case' neg =>
     have hb5 := hb1
     go_wp2_with fail
   all_goals
    go_meet
    case rel => exact hb5
  case rest =>
    have hb5 := hcut
    go_wp2_with fail
    refine (HG.out _ (hS.keep hb5)).mono ?_
    rintro e6 w6 ⟨rfl, hb6⟩
    have hb6 := hb5.trans (hb6.mono hb5.size)
    go_wp2_with fail
    refine (HCN.out _ (hS.keep hb6)).mono ?_
    rintro e7 w7 ⟨⟨v, rfl, hv⟩, hb7⟩
    have hq6 := hb6.size
    have hb7 := hb6.trans (hb7.mono hb6.size)
    obtain ⟨q, hq, rfl, hRow⟩ := hv
    have HRow := Lib.hid hRow
    clear hRow
    go_wp2_with fail
    go_loopw [27, 28] (fun v u wr => ∃ i : Nat, i ≤ n ∧ v = .int .i64 (sumTo (cnt s.data.toList) i : Nat) ∧ u = .int .i64 i ∧ Row wr q 76 (arr (cnt s.data.toList)) ∧ Below w.heap.size w wr) (fun _ u _ => n - (intOf u).toNat)
    case atStart => exact ⟨0, Nat.zero_le _, rfl, rfl, HRow.out, hb7⟩
    case round =>
      obtain ⟨i, hi, rfl, rfl, hR, hbel⟩ := hrel
      have HR := Lib.hid hR
      clear hR
      by_cases hlt : i < n
      · have hsle : sumTo (cnt s.data.toList) (i + 1) ≤ sumTo (cnt s.data.toList) n := sumTo_mono _ (by omega)
        rw [HSUM.out] at hsle
        have hlen := HLEN.out
        have HSN : Hid (sumTo (cnt s.data.toList) (i + 1) = sumTo (cnt s.data.toList) i + cnt s.data.toList i) := Lib.hid (show sumTo (cnt s.data.toList) (i + 1) = sumTo (cnt s.data.toList) i + cnt s.data.toList i from rfl)
        rw [HSN.out] at hsle
        go_wp2_with fail
        obtain ⟨wo, rfl⟩ : ∃ wo : World, wo = wr := ⟨_, rfl⟩
        go_loopw [29, 30] (fun x y w3 => ∃ t : Nat, t ≤ s.size ∧ y = .int .i64 t ∧ x = .int .i64 (cnt (s.data.toList.take t) i : Nat) ∧ Row w3 q 76 (arr (cnt s.data.toList)) ∧ Below w.heap.size w w3) (fun _ y _ => s.size - (intOf y).toNat)
        case atStart => exact ⟨0, Nat.zero_le _, rfl, rfl, HR.out, hbel⟩
        case round =>
          obtain ⟨t, ht, rfl, rfl, hR3, hbel3⟩ := hrel
          have HR3 := Lib.hid hR3
          clear hR3
          by_cases htl : t < s.size
          · have ga : s[t]'htl = at_ s t := at_get _ _ _
            have g1 : (0 : Int) ≤ (t : Int) := by omega
            have g2 : ((t : Int)).toNat = t := by omega
            have g5 : (t : Int) < s.size := by omega
            have HCT := Lib.hid (cnt_take i htl)
            have hcb : cnt (s.data.toList.take t) i ≤ 40000 := Nat.le_trans (cnt_le _ _) (by rw [List.length_take]; have := HLEN.out; omega)
            have hx : (at_ s t).toNat < 256 := (at_ s t).toNat_lt
            by_cases he : (at_ s t).toNat = 97 + i
            · rw [if_pos he] at HCT
              have he' : ((at_ s t).toNat : Int) - 97 = (i : Int) := by omega
              clear he
              go_wp2
              go_roundw
              case rel => exact ⟨t + 1, by omega, by go_num, by rw [HCT.out, Int.natCast_add]; rfl, HR3.out, hbel3⟩
              case measure => simp [intOf]; omega
            · rw [if_neg he] at HCT
              have he' : ¬ ((at_ s t).toNat : Int) - 97 = (i : Int) := by omega
              clear he
              go_wp2
              go_roundw
              case rel => exact ⟨t + 1, by omega, by go_num, by rw [HCT.out]; rfl, HR3.out, hbel3⟩
              case measure => simp [intOf]; omega
          · have hte : cnt (s.data.toList.take t) i = cnt s.data.toList i := by rw [List.take_of_length_le (by rw [← Lib.size_eq]; omega)]
            have hci : wr.cell? ⟨q, i, none⟩ = some (.int .i64 (cnt s.data.toList i : Nat)) := (HR3.out.cell _).trans (arr_get _ (by omega))
            have HTE := Lib.hid hte
            rw [hte]
            clear hte
            go_wp2
            go_roundw
            case rel => exact ⟨i + 1, by omega, by rw [HSN.out, Int.natCast_add], by go_num, HR3.out, hbel3⟩
            case measure => simp [intOf]; omega
      · have : i = n := by omega
        subst this
        rw [HSUM.out]
        go_upto_region 36 with fail
        go_cut [163] (fun s163 wx => s163 = .bool (decide (0 ≤ pos) && decide (pos < (s.size : Int))) ∧ wx = wr)
        case first =>
          by_cases hp0 : 0 ≤ pos
          case' pos => by_cases hp1 : pos < (s.size : Int)
          all_goals
            go_wp2_with fail
            go_meet
            case rel => first | exact ⟨rfl, rfl⟩ | exact ⟨by simp [*] <;> (intros; omega), rfl⟩
        case rest =>
        obtain ⟨rfl, rfl⟩ := hcut
        go_upto_if 163 with fail
        go_cut [] (fun wx => Below w.heap.size w wx)
        case first =>
          by_cases hat : 0 ≤ pos ∧ pos < s.size
          case pos =>
            obtain ⟨ha0, ha1⟩ := hat
            obtain ⟨p, rfl⟩ := Int.eq_ofNat_of_zero_le ha0
            have hex := Lib.hid (extract_one (s := s) (i := p) (by omega))
            have hp3 : (p : Int) + 1 ≤ 40000 := by have := HLEN.out; omega
            have hbo : (decide (0 ≤ (p : Int)) && decide ((p : Int) < (s.size : Int))) = true := by simp [ha0, ha1]
            go_wp2_with fail
            refine (HL.out p _ (hS.keep hbel) (by omega)).mono ?_
            rintro e8 w8 ⟨rfl, hb8⟩
            have hbel := hbel.trans (hb8.mono hbel.size)
            have hp1 : ((p : Int) + 1).toNat = p + 1 := by omega
            have hp2 : (p : Int) + 1 ≤ s.size := by omega
            have hp4 : (p : Int) ≤ (p : Int) + 1 := by omega
            obtain ⟨X, hX⟩ : ∃ X, X = s.extract p (p + 1) := ⟨_, rfl⟩
            have hXe : (X.toList == (s.extract p (p + 1)).toList) = true := by rw [hX]; exact beq_self_eq_true _
            rw [← hex.out, ← hX]
            clear hX hex
            go_wp2_with fail
            go_meet
            case rel => exact hbel
          case neg =>
            have hbo : (decide (0 ≤ pos) && decide (pos < (s.size : Int))) = false := by
              rw [Bool.eq_false_iff]
              intro h
              simp at h
              exact hat h
            go_wp2_with fail
            go_meet
            case rel => exact hbel
        case rest =>
        have hbel := hcut
        by_cases hm0 : m < 0
        · go_wp2_with fail
          go_ret
          exact ⟨rfl, hbel⟩
        · have hm0 : 0 ≤ m := by omega
          by_cases hm1 : (k : Int) ≤ 60 - m
          · obtain ⟨j, rfl⟩ := Int.eq_ofNat_of_zero_le hm0
            have H1 := Lib.hid (fun w2 h2 => HF.out j w2 h2 hm1)
            have H2 := Lib.hid (fun w2 h2 => HU.out j w2 h2 hm1)
            have hkj : (k : Int) + (j : Int) ≤ 60 := by omega
            generalize growTo ss j s.data.toList = o at *
            cases o
            all_goals
              go_wp2_with fail
              refine (H1.out _ (hS.keep hbel)).mono ?_
              rintro e9 w9 ⟨rfl, hb9⟩
              have hb9 := hbel.trans (hb9.mono hbel.size)
              unfold textV
              go_wp2_with fail
              refine (H2.out _ (hS.keep hb9)).mono ?_
              rintro e10 w10 ⟨rfl, hb10⟩
              have hb10 := hb9.trans (hb10.mono hb9.size)
              unfold textV
              go_wp2_with fail
              go_region
              go_wp2_with fail
              go_ret
              exact ⟨rfl, hb10.drew⟩
          · have hm2 : 60 - m < (k : Int) := by omega
            have hm3 : -9223372036854775808 ≤ 60 - m ∧ 60 - m ≤ 60 := by omega
            go_wp2_with fail
            go_ret
            exact ⟨rfl, hbel⟩

theorem growFree_any (a : Option Addr) (n c : Nat) (ss : List ByteArray) (word : ByteArray) (k m pos : Int) (w : World) (hS : Gr.Sys w a n ss) (hw : word.size ≤ maxLen) (hm63 : m ≤ 9223372036854775807) :
    Calls Try.prog 6 #[.slice a n c, .string word, .int .i64 k, .int .i64 m, .int .i64 pos] w fun e w' => e = .returned (.bool true) ∧ Below w.heap.size w w' := by
  by_cases hf : fault ss word k = 0
  · obtain ⟨k, rfl⟩ := Int.eq_ofNat_of_zero_le (fault_zero hf).2.2.2.1
    cases hg : growTo ss k word.data.toList with
    | none => exact growFree_full a n c ss word k m pos w hS hw hf hg
    | some l => exact growFree_ok a n c ss word k m pos w ⟨l.toArray⟩ hS hw hf hm63 hg
  · exact growFree_bad a n c ss word k m pos w hS hw hf

end SqF
end Go.Proofs.Ythggpjpmjhaidaa
