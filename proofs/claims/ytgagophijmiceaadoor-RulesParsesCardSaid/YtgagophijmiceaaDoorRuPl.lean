/- TEXTS AS RULES, plain: rising digits, numbers between two bounds, what a text of a rule comes to. -/
import Derived.Test.YtgagophijmiceaaDoorPrH
namespace Go.Proofs.YtgagophijmiceaaDoor
set_option linter.unusedSimpArgs false
set_option linter.unusedVariables false
namespace Pr
open Rd

/-- What a reading comes to: a fault at a place, or a number and the place behind it. -/
inductive RN
  | bad (p : Nat)
  | ok (n i : Nat)
/-- The digit that stands at a place, 0 to 8. -/
def dg8 (l : List UInt8) (i : Nat) : Bool := decide (i < l.length ∧ 48 ≤ (l.getD i 0).toNat ∧ (l.getD i 0).toNat ≤ 56)
def rise (l : List UInt8) : Nat → Nat → Nat → RN
  | 0, i, n => .ok n i
  | k + 1, i, n => if dg8 l i = true then (if n / 2 ^ ((l.getD i 0).toNat - 48) ≠ 0 then .bad i else rise l k (i + 1) (n + 2 ^ ((l.getD i 0).toNat - 48))) else .ok n i
theorem rise_fuel (l : List UInt8) : ∀ k m i n, l.length < k + i → l.length < m + i → rise l k i n = rise l m i n
  | 0, 0, i, n, _, _ => rfl
  | 0, m + 1, i, n, h, _ => by
    unfold rise
    rw [if_neg (fun x => by unfold dg8 at x; have := (of_decide_eq_true x).1; omega)]
  | k + 1, 0, i, n, _, h => by
    unfold rise
    rw [if_neg (fun x => by unfold dg8 at x; have := (of_decide_eq_true x).1; omega)]
  | k + 1, m + 1, i, n, h, h2 => by
    unfold rise
    rw [rise_fuel l k m (i + 1) _ (by omega) (by omega)]
def riseR (l : List UInt8) (i n : Nat) : RN := rise l (l.length + 1 - i) i n
theorem riseR_end {l : List UInt8} {i n : Nat} (h : dg8 l i = false) : riseR l i n = .ok n i := by
  unfold riseR
  rcases Nat.eq_zero_or_pos (l.length + 1 - i) with h0 | h0
  · rw [h0]; rfl
  · rw [show l.length + 1 - i = (l.length - i) + 1 by omega, rise, if_neg (by rw [h]; decide)]
theorem riseR_bad {l : List UInt8} {i n : Nat} (h : dg8 l i = true) (h2 : n / 2 ^ ((l.getD i 0).toNat - 48) ≠ 0) : riseR l i n = .bad i := by
  have hl := h
  unfold dg8 at hl
  have hl := (of_decide_eq_true hl).1
  unfold riseR
  rw [show l.length + 1 - i = (l.length - i) + 1 by omega, rise, if_pos h, if_pos h2]
theorem riseR_next {l : List UInt8} {i n : Nat} (h : dg8 l i = true) (h2 : n / 2 ^ ((l.getD i 0).toNat - 48) = 0) : riseR l i n = riseR l (i + 1) (n + 2 ^ ((l.getD i 0).toNat - 48)) := by
  have hl := h
  unfold dg8 at hl
  have hl := (of_decide_eq_true hl).1
  unfold riseR
  rw [show l.length + 1 - i = (l.length - i) + 1 by omega, rise, if_pos h, if_neg (fun x => x h2)]
  exact rise_fuel l _ _ _ _ (by omega) (by omega)
/-- A number between two bounds. -/
def numO (l : List UInt8) (i : Nat) (lo hi : Int) : RN := if numv (dgs l i) < lo ∨ hi < numv (dgs l i) then .bad i else .ok (numv (dgs l i)).toNat (i + (dgs l i).length)
/-- What a text of a rule comes to. -/
inductive RU
  | bad (p : Nat)
  | ok (K B S st ra : Nat) (zs : List Int) (tu : List UInt8)
def wantO (l : List UInt8) (i : Nat) (c : UInt8) (K : RU) : RU := if i < l.length ∧ l.getD i 0 = c then K else .bad i
def RN.on (o : RN) (K : Nat → Nat → RU) : RU := match o with
  | .bad p => .bad p
  | .ok n i => K n i
def endO (l : List UInt8) (i : Nat) (K : RU) : RU := if i < l.length then .bad i else K
/-- The bits of a number, from the lowest on. -/
def bitsL (n k : Nat) : List Int := (List.range k).map fun j => ((n / 2 ^ j % 2 : Nat) : Int)
/-- So many digits below a bound. -/
def tabO (l : List UInt8) (st : Nat) : Nat → Nat → Option Nat
  | _, 0 => none
  | i, k + 1 => if i < l.length ∧ 48 ≤ (l.getD i 0).toNat ∧ (l.getD i 0).toNat - 48 < st then tabO l st (i + 1) k else some i
def digL (l : List UInt8) (i k : Nat) : List Int := (List.range k).map fun j => (((l.getD (i + j) 0).toNat : Int) - 48)
/-- How many letters L, R stand there, at most so many. -/
def lrs (l : List UInt8) : Nat → Nat → Nat
  | _, 0 => 0
  | i, k + 1 => if i < l.length ∧ (l.getD i 0 = 76 ∨ l.getD i 0 = 82) then lrs l (i + 1) k + 1 else 0
def ruleO (l : List UInt8) : RU :=
  if l.head? = some 66 then (riseR l 1 0).on fun B i => wantO l i 47 (wantO l (i + 1) 83 ((riseR l (i + 2) 0).on fun S j => endO l j (.ok 1 B S 0 0 [] [])))
  else if l.head? = some 87 then (numO l 1 0 255).on fun n i => endO l i (.ok 2 0 0 2 1 (bitsL n 8) [])
  else if l.head? = some 76 then wantO l 1 32 ((numO l 2 2 4).on fun st i => wantO l i 32 ((numO l (i + 1) 0 2).on fun ra j => wantO l j 32 (match tabO l st (j + 1) (st ^ (2 * ra + 1)) with
    | some p => .bad p
    | none => endO l (j + 1 + st ^ (2 * ra + 1)) (.ok 2 0 0 st ra (digL l (j + 1) (st ^ (2 * ra + 1))) []))))
  else if l.head? = some 84 then wantO l 1 32 (if lrs l 2 26 = 0 then .bad 2 else endO l (2 + lrs l 2 26) (.ok 3 0 0 0 0 [] ((l.drop 2).take (lrs l 2 26))))
  else .bad 0
/-! Numbers cut at a thousand. -/
def mst1 (a : Int) (b : UInt8) : Int := min (a * 10 + ((b.toNat : Int) - 48)) 1000
def mac1 (ds : List UInt8) : Int := ds.foldl mst1 0
theorem mac1_next {ds : List UInt8} {j : Nat} (h : j < ds.length) : mac1 (ds.take (j + 1)) = mst1 (mac1 (ds.take j)) (ds.getD j 0) := by
  unfold mac1
  rw [List.take_succ_eq_append_getElem h, List.foldl_append, List.getD_eq_getElem?_getD, List.getElem?_eq_getElem h]
  rfl
theorem fold_rel : ∀ (ds : List UInt8) (a b : Int), (∀ x ∈ ds, digB x = true) → ((a = b ∧ 0 ≤ a ∧ a < 1000) ∨ (a = 1000 ∧ 1000 ≤ b)) → ((ds.foldl mst1 a = ds.foldl val1 b ∧ 0 ≤ ds.foldl mst1 a ∧ ds.foldl mst1 a < 1000) ∨ (ds.foldl mst1 a = 1000 ∧ 1000 ≤ ds.foldl val1 b))
  | [], a, b, _, h => h
  | x :: ds, a, b, hd, h => by
    have hx := dig_num (hd x List.mem_cons_self)
    rw [List.foldl_cons, List.foldl_cons]
    refine fold_rel ds _ _ (fun y hy => hd y (List.mem_cons_of_mem _ hy)) ?_
    unfold mst1 val1
    rcases h with ⟨rfl, h1, h2⟩ | ⟨rfl, h2⟩
    · rw [if_pos (by omega)]
      omega
    · by_cases h3 : b < 1000000
      · rw [if_pos h3]; omega
      · rw [if_neg h3]; omega
theorem mac1_val {ds : List UInt8} (hd : ∀ x ∈ ds, digB x = true) : (mac1 ds = val ds ∧ 0 ≤ mac1 ds ∧ mac1 ds < 1000) ∨ (mac1 ds = 1000 ∧ 1000 ≤ val ds) :=
  fold_rel ds 0 0 hd (.inl ⟨rfl, by decide, by decide⟩)
theorem mac1_b {ds : List UInt8} (h : ∀ b ∈ ds, digB b = true) (j : Nat) : 0 ≤ mac1 (ds.take j) ∧ mac1 (ds.take j) ≤ 1000 := by
  have := mac1_val (ds := ds.take j) (fun b hb => h b (List.mem_of_mem_take hb))
  omega
end Pr
end Go.Proofs.YtgagophijmiceaaDoor
