/- WALK: rules.bits and rules.turns, exact; what is wrong with a rule that is no line's. -/
import Derived.Test.YthipeeagpllfeaaDoorLnCk
namespace Go.Proofs.YthipeeagpllfeaaDoor
set_option linter.unusedSimpArgs false
set_option linter.unusedVariables false
open Go.RowKit
namespace Ln
open Tld Mem

def bitsB (z : Int) : Bool := decide (0 ≤ z ∧ z ≤ 511)
theorem bitsB_iff {z : Int} : bitsB z = true ↔ 0 ≤ z ∧ z ≤ 511 := decide_eq_true_iff
theorem bits_is (z : Int) (w : World) : Calls Tryd.prog 34 #[.int .i64 z] w fun e w' => e = .returned (.bool (bitsB z)) ∧ w = w' := by
  go_enter Tryd.func34, Tryd.ntmps34
  by_cases h0 : 0 ≤ z
  · have h1 : decide (z < 512) = bitsB z := by
      unfold bitsB
      exact decide_eq_decide.2 (by omega)
    go_wp2
    go_ret
    exact ⟨by first | rfl | (rw [← h1]; rfl), rfl⟩
  · have h1 : bitsB z = false := decide_eq_false (by omega)
    rw [h1]
    go_wp2
    go_ret
    exact ⟨rfl, rfl⟩
/-- Letters L and R alone. -/
def isLR (s : ByteArray) : Bool := s.data.toList.all fun b => b == 76 || b == 82
def turnsB (s : ByteArray) : Bool := decide (1 ≤ s.size ∧ s.size ≤ 26) && isLR s
theorem dropWhile_nil {α : Type} {p : α → Bool} : ∀ {l : List α}, l.dropWhile p = [] ↔ ∀ x ∈ l, p x = true
  | [] => by simp
  | x :: l => by
    rw [List.dropWhile_cons]
    by_cases h : p x = true
    · rw [if_pos h, dropWhile_nil]; simp [h]
    · rw [if_neg h]; simp [h]
theorem dropWhile_head {α : Type} {p : α → Bool} : ∀ {l : List α} {x : α} {r : List α}, l.dropWhile p = x :: r → p x = false
  | [], x, r, h => by simp at h
  | y :: l, x, r, h => by
    rw [List.dropWhile_cons] at h
    by_cases hy : p y = true
    · rw [if_pos hy] at h; exact dropWhile_head h
    · rw [if_neg hy] at h
      cases h
      simpa using hy
theorem trim_nil {s : ByteArray} : Lib.trimS s.data.toList (⟨#[76, 82]⟩ : ByteArray).data.toList = [] ↔ isLR s = true := by
  have hp : ∀ b : UInt8, ([76, 82] : List UInt8).contains b = (b == 76 || b == 82) := fun b => by
    simp only [List.contains, List.elem]
    cases (b == 76) <;> cases (b == 82) <;> rfl
  show Lib.trimS s.data.toList [76, 82] = [] ↔ _
  unfold isLR Lib.trimS Lib.trimLeftS Lib.trimRightS
  generalize s.data.toList = l
  rw [List.all_eq_true]
  constructor
  · intro h
    rw [dropWhile_nil] at h
    rcases hr : l.reverse.dropWhile (([76, 82] : List UInt8).contains ·) with _ | ⟨x, r⟩
    · rw [dropWhile_nil] at hr
      exact fun b hb => by rw [← hp]; exact hr b (List.mem_reverse.2 hb)
    · have h1 := dropWhile_head hr
      have h2 := h x (by rw [hr]; simp)
      rw [h1] at h2; cases h2
  · intro h
    have h1 : l.reverse.dropWhile (([76, 82] : List UInt8).contains ·) = [] := dropWhile_nil.2 fun b hb => by rw [hp]; exact h b (List.mem_reverse.1 hb)
    rw [h1]
    rfl
theorem trim_is (s : ByteArray) (w : World) (hs : s.size ≤ 9223372036854775807) : Calls Tryd.prog 49 #[.string s, .string ⟨#[76, 82]⟩] w fun e w' => (∃ r : ByteArray, e = .returned (.string r) ∧ (r = ⟨#[]⟩ ↔ isLR s = true)) ∧ Below w.heap.size w w' :=
  (show Calls Tryd.prog 49 #[.string s, .string ⟨#[76, 82]⟩] w fun e w' => e = .returned (.string ⟨(Lib.trimS s.data.toList (⟨#[76, 82]⟩ : ByteArray).data.toList).toArray⟩) ∧ Below w.heap.size w w' from
    Any.strings_Trim_laid Tryd.lays160 (by kernel_rfl) s ⟨#[76, 82]⟩ w hs (by decide) (ascii_of_all (by decide))).mono fun e w' h => ⟨⟨_, h.1, by
      rw [← trim_nil]
      constructor
      · intro h; simpa using congrArg (fun b : ByteArray => b.data.toList) h
      · intro h; rw [h]⟩, h.2⟩
theorem turns_is (s : ByteArray) (w : World) (hs : s.size ≤ 9223372036854775807) : Calls Tryd.prog 38 #[.string s] w fun e w' => e = .returned (.bool (turnsB s)) ∧ Below w.heap.size w w' := by
  have HT := Lib.hid (trim_is s w hs)
  obtain ⟨q, hq⟩ : ∃ q, q = turnsB s := ⟨_, rfl⟩
  have HQ := Lib.hid hq
  rw [← hq]
  go_enter Tryd.func38, Tryd.ntmps38
  have hd : s.size = 0 ∨ (1 ≤ s.size ∧ s.size ≤ 26) ∨ (1 ≤ s.size ∧ 26 < s.size) := by omega
  rcases hd with h | ⟨h1, h2⟩ | ⟨h1, h2⟩
  · have hf : q = false := by
      rw [hq]; unfold turnsB
      rw [decide_eq_false (by omega)]; rfl
    subst hf
    clear hq
    go_wp2
    go_ret
    exact ⟨rfl, Below.refl _ _⟩
  · have HS : Hid (1 ≤ s.size ∧ s.size ≤ 26) := Lib.hid ⟨h1, h2⟩
    clear hq
    go_wp2_with fail
    refine HT.out.mono ?_
    rintro e1 w1 ⟨⟨r, rfl, hr⟩, hb⟩
    have hq2 : q = isLR s := by
      rw [HQ.out]; unfold turnsB
      rw [decide_eq_true HS.out]; rfl
    by_cases he : r = ⟨#[]⟩
    · have hf : q = true := by rw [hq2]; exact hr.1 he
      subst hf he
      clear hr hq2 HQ
      go_wp2_with fail
      go_ret
      exact ⟨rfl, hb⟩
    · have hf : q = false := by
        rw [hq2]
        exact Bool.eq_false_iff.2 fun h => he (hr.2 h)
      subst hf
      have h3 : r.toList.isEmpty = false := by
        rw [Lib.toList_data]
        obtain ⟨⟨l⟩⟩ := r
        cases l with
        | nil => exact absurd rfl he
        | cons _ _ => rfl
      clear hr hq2 HQ he
      go_wp2_with fail
      go_ret
      exact ⟨by first | rfl | (rw [h3]; rfl), hb⟩
  · have hf : q = false := by
      rw [hq]; unfold turnsB
      rw [decide_eq_false (by omega)]; rfl
    subst hf
    clear hq
    go_wp2
    go_ret
    exact ⟨rfl, Below.refl _ _⟩
/-- A rule of a plane; a rule of a walker. -/
structure OkL (B S st ra : Int) (tn : Nat) (tu : ByteArray) : Prop where
  b : bitsB B = true
  s : bitsB S = true
  st : st = 0
  ra : ra = 0
  tn : tn = 0
  tu : tu.size = 0
structure OkT (B S st ra : Int) (tn : Nat) (tu : ByteArray) : Prop where
  b : B = 0
  s : S = 0
  st : st = 0
  ra : ra = 0
  tn : tn = 0
  tu : turnsB tu = true
noncomputable def ofault (K B S st ra : Int) (tn : Nat) (tu : ByteArray) : Int := @ite _ ((K = 1 ∧ OkL B S st ra tn tu) ∨ (K = 3 ∧ OkT B S st ra tn tu)) (Classical.propDecidable _) 0 1
theorem ofault_ok1 {B S st ra : Int} {tn : Nat} {tu : ByteArray} (h : OkL B S st ra tn tu) : ofault 1 B S st ra tn tu = 0 := @if_pos _ (Classical.propDecidable _) (.inl ⟨rfl, h⟩) _ _ _
theorem ofault_ok3 {B S st ra : Int} {tn : Nat} {tu : ByteArray} (h : OkT B S st ra tn tu) : ofault 3 B S st ra tn tu = 0 := @if_pos _ (Classical.propDecidable _) (.inr ⟨rfl, h⟩) _ _ _
theorem ofault_no1 {B S st ra : Int} {tn : Nat} {tu : ByteArray} (h : ¬ OkL B S st ra tn tu) : ofault 1 B S st ra tn tu = 1 := @if_neg _ (Classical.propDecidable _) (fun k => k.elim (fun k => h k.2) (fun k => absurd k.1 (by decide))) _ _ _
theorem ofault_no3 {B S st ra : Int} {tn : Nat} {tu : ByteArray} (h : ¬ OkT B S st ra tn tu) : ofault 3 B S st ra tn tu = 1 := @if_neg _ (Classical.propDecidable _) (fun k => k.elim (fun k => absurd k.1 (by decide)) (fun k => h k.2)) _ _ _
theorem ofault_no {K B S st ra : Int} {tn : Nat} {tu : ByteArray} (h1 : K ≠ 1) (h3 : K ≠ 3) : ofault K B S st ra tn tu = 1 := @if_neg _ (Classical.propDecidable _) (fun k => k.elim (fun k => h1 k.1) (fun k => h3 k.1)) _ _ _
theorem ofault_01 (K B S st ra : Int) (tn : Nat) (tu : ByteArray) : ofault K B S st ra tn tu = 0 ∨ ofault K B S st ra tn tu = 1 := by
  by_cases h : (K = 1 ∧ OkL B S st ra tn tu) ∨ (K = 3 ∧ OkT B S st ra tn tu)
  · exact .inl (@if_pos _ (Classical.propDecidable _) h _ _ _)
  · exact .inr (@if_neg _ (Classical.propDecidable _) h _ _ _)
theorem ofault_life {B S st ra : Int} {tn : Nat} {tu : ByteArray} (h : ofault 1 B S st ra tn tu = 0) : OkL B S st ra tn tu := by
  by_cases h1 : OkL B S st ra tn tu
  · exact h1
  · rw [ofault_no1 h1] at h; cases h
end Ln
end Go.Proofs.YthipeeagpllfeaaDoor
