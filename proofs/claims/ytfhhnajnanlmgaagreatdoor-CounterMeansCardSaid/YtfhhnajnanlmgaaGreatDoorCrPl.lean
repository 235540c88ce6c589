/- Machines that count, plain: what a line is, what is wrong with a machine. -/
import Derived.WalkKit
namespace Go.Proofs.YtfhhnajnanlmgaaGreatDoor
set_option linter.unusedSimpArgs false
set_option linter.unusedVariables false
namespace Cr

def okI (m : Nat) (op a t e : Int) : Prop :=
  (op = 1 ∧ 0 ≤ a ∧ a ≤ 3 ∧ 0 ≤ t ∧ t < m ∧ e = 0) ∨ (op = 2 ∧ 0 ≤ a ∧ a ≤ 3 ∧ 0 ≤ t ∧ t < m ∧ 0 ≤ e ∧ e < m) ∨ (op = 3 ∧ a = 0 ∧ t = 0 ∧ e = 0)
instance (m : Nat) (op a t e : Int) : Decidable (okI m op a t e) := by unfold okI; infer_instance
def okAt (f : Nat → Nat → Int) (m i : Nat) : Prop := okI m (f i 0) (f i 1) (f i 2) (f i 3)
instance (f : Nat → Nat → Int) (m i : Nat) : Decidable (okAt f m i) := by unfold okAt; infer_instance
/-- What is wrong with a machine. -/
def CodeOk (f : Nat → Nat → Int) (m : Nat) : Prop := 1 ≤ m ∧ m ≤ 12 ∧ ∀ i, i < m → okAt f m i
noncomputable def codeF (f : Nat → Nat → Int) (m : Nat) : Int := by
  classical exact if m < 1 ∨ 12 < m then 4 else if ∀ i, i < m → okAt f m i then 0 else 1
theorem codeF_full {f : Nat → Nat → Int} {m : Nat} (h : m < 1 ∨ 12 < m) : codeF f m = 4 := by unfold codeF; rw [if_pos h]
theorem codeF_bad {f : Nat → Nat → Int} {m i : Nat} (h : ¬ (m < 1 ∨ 12 < m)) (hi : i < m) (hb : ¬ okAt f m i) : codeF f m = 1 := by
  unfold codeF; rw [if_neg h, if_neg fun hh => hb (hh i hi)]
theorem codeF_ok {f : Nat → Nat → Int} {m : Nat} (h : CodeOk f m) : codeF f m = 0 := by
  unfold codeF; rw [if_neg (by have := h.1; have := h.2.1; omega), if_pos h.2.2]
theorem codeF_zero {f : Nat → Nat → Int} {m : Nat} (h : codeF f m = 0) : CodeOk f m := by
  unfold codeF at h
  split at h
  · cases h
  · split at h
    · exact ⟨by omega, by omega, by assumption⟩
    · cases h
theorem codeF_range (f : Nat → Nat → Int) (m : Nat) : 0 ≤ codeF f m ∧ codeF f m ≤ 4 := by
  unfold codeF
  split
  · decide
  · split <;> decide

def wordOf (op : Int) : ByteArray := if op = 1 then ⟨#[105, 110, 99]⟩ else if op = 2 then ⟨#[100, 101, 99]⟩ else if op = 3 then ⟨#[104, 97, 108, 116]⟩ else ⟨#[]⟩
def numsOf (op : Int) : Int := if op = 1 then 2 else if op = 2 then 3 else 0
def known (op : Int) : Bool := decide (1 ≤ op ∧ op ≤ 3)
end Cr
end Go.Proofs.YtfhhnajnanlmgaaGreatDoor
