/- Lines of a machine's text, plain: numbers behind blanks, by fields and by going on from place to place. -/
import Derived.WalkKit
namespace Go.Proofs.YtgagophijmiceaaDoor
set_option linter.unusedSimpArgs false
set_option linter.unusedVariables false
namespace Rd

def digB (b : UInt8) : Bool := decide (48 ≤ b.toNat ∧ b.toNat ≤ 57)
/-- There are some, and no needless 0. -/
def goodN (ds : List UInt8) : Bool := decide (ds ≠ [] ∧ ¬ (ds.head? = some 48 ∧ 1 < ds.length))
def val1 (n : Int) (b : UInt8) : Int := if n < 1000000 then n * 10 + (b.toNat : Int) - 48 else n
def val (ds : List UInt8) : Int := ds.foldl val1 0
/-- A field that is a number of at most six digits. -/
def field (f : List UInt8) : Option Int := if f.all digB && goodN f && decide (f.length ≤ 6) then some (val f) else none
def mapF : List (List UInt8) → Option (List Int)
  | [] => some []
  | f :: r => match field f with
    | none => none
    | some v => (mapF r).map (v :: ·)
/-- What stands between blanks. -/
def sp : List UInt8 → List (List UInt8)
  | [] => [[]]
  | b :: r => if b = 32 then [] :: sp r else match sp r with
    | [] => [[b]]
    | f :: fs => (b :: f) :: fs
/-- Numbers, each behind a blank. -/
def numsR : List UInt8 → Option (List Int)
  | [] => some []
  | b :: r => if b = 32 then
      if goodN (r.takeWhile digB) && decide ((r.takeWhile digB).length ≤ 6) then (numsR (r.drop (r.takeWhile digB).length)).map (val (r.takeWhile digB) :: ·) else none
    else none
termination_by r => r.length
decreasing_by simp; omega

theorem sp_ne : ∀ r, sp r ≠ []
  | [] => by simp [sp]
  | b :: r => by
    unfold sp
    split
    · simp
    · split <;> simp
theorem dig_ne {b : UInt8} (h : digB b = true) : b ≠ 32 := fun e => by
  subst e
  revert h
  decide
/-- Digits stand ahead of the first field. -/
theorem sp_app : ∀ (ds : List UInt8), (∀ b ∈ ds, digB b = true) → ∀ r f fs, sp r = f :: fs → sp (ds ++ r) = (ds ++ f) :: fs
  | [], _, r, f, fs, h => h
  | b :: ds, hd, r, f, fs, h => by
    have ih := sp_app ds (fun x hx => hd x (List.mem_cons_of_mem _ hx)) r f fs h
    rw [List.cons_append]
    unfold sp
    rw [if_neg (dig_ne (hd b List.mem_cons_self)), ih]
    rfl
theorem take_all (r : List UInt8) : ∀ b ∈ r.takeWhile digB, digB b = true := fun b hb => by
  induction r with
  | nil => cases hb
  | cons c r ih =>
    rw [List.takeWhile_cons] at hb
    split at hb
    · rename_i hc
      rcases List.mem_cons.1 hb with rfl | h
      · exact hc
      · exact ih h
    · cases hb
theorem split_at (r : List UInt8) : r.takeWhile digB ++ r.drop (r.takeWhile digB).length = r := by
  induction r with
  | nil => rfl
  | cons c r ih =>
    rw [List.takeWhile_cons]
    split
    · rw [List.cons_append, List.length_cons, List.drop_succ_cons, ih]
    · rfl
theorem head_no (r : List UInt8) {b : UInt8} {r' : List UInt8} (h : r.drop (r.takeWhile digB).length = b :: r') : digB b = false := by
  induction r with
  | nil => simp at h
  | cons c r ih =>
    rw [List.takeWhile_cons] at h
    split at h
    · rw [List.length_cons, List.drop_succ_cons] at h
      exact ih h
    · rename_i hc
      rw [List.length_nil, List.drop_zero] at h
      cases h
      simpa using hc
theorem field_bad {f : List UInt8} {b : UInt8} (hb : b ∈ f) (h : digB b = false) : field f = none := by
  unfold field
  have : f.all digB = false := by
    rw [List.all_eq_false]
    exact ⟨b, hb, by rw [h]; simp⟩
  rw [this]
  simp
theorem all_true {f : List UInt8} (h : ∀ b ∈ f, digB b = true) : f.all digB = true := List.all_eq_true.2 h

/-- Going on from place to place finds the fields' numbers. -/
theorem numsR_sp : ∀ (n : Nat) (r : List UInt8), r.length ≤ n → numsR (32 :: r) = mapF (sp r)
  | n, r, hn => by
    have hs := split_at r
    have ha := take_all r
    unfold numsR
    rw [if_pos rfl]
    generalize hds : r.takeWhile digB = ds at *
    rcases hr : r.drop ds.length with _ | ⟨b, r'⟩
    · rw [hr, List.append_nil] at hs
      subst hs
      have e : sp ds = [ds] := by
        have := sp_app ds ha [] [] [] rfl
        simpa using this
      rw [e]
      unfold mapF mapF field
      rw [all_true ha]
      simp only [Bool.true_and]
      split
      · unfold numsR; rfl
      · rfl
    · have hno : digB b = false := head_no r (by rw [hds]; exact hr)
      rw [hr] at hs
      by_cases hb : b = 32
      · subst hb
        have hlen : r'.length < r.length := by rw [← hs]; simp; omega
        have ih := numsR_sp (n - 1) r' (by omega)
        have e : sp r = ds :: sp r' := by
          rw [← hs]
          have := sp_app ds ha (32 :: r') [] (sp r') (by simp [sp])
          simpa using this
        rw [e, ih]
        conv => rhs; unfold mapF field
        rw [all_true ha]
        simp only [Bool.true_and]
        split
        · rfl
        · rfl
      · have hn2 : numsR (b :: r') = none := by unfold numsR; rw [if_neg hb]
        rw [hn2]
        obtain ⟨f, fs, hf⟩ : ∃ f fs, sp (b :: r') = f :: fs := by
          rcases h : sp (b :: r') with _ | ⟨f, fs⟩
          · exact absurd h (sp_ne _)
          · exact ⟨f, fs, rfl⟩
        have hbf : b ∈ f := by
          unfold sp at hf
          rw [if_neg hb] at hf
          split at hf
          · cases hf; exact List.mem_cons_self
          · cases hf; exact List.mem_cons_self
        have e : sp r = (ds ++ f) :: fs := by
          rw [← hs]
          exact sp_app ds ha _ f fs hf
        rw [e]
        unfold mapF
        rw [field_bad (List.mem_append_right ds hbf) hno]
        split <;> rfl
termination_by n => n
decreasing_by omega
end Rd
end Go.Proofs.YtgagophijmiceaaDoor
