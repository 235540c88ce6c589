/- TEXTS AS PATTERNS, plain: what a text of runs says, step by step. -/
import Derived.Test.YtgagophijmiceaaDoorRdPl
namespace Go.Proofs.YtgagophijmiceaaDoor
set_option linter.unusedSimpArgs false
set_option linter.unusedVariables false
namespace Pr
open Rd

def blB (b : UInt8) : Bool := decide (b = 32 ∨ b = 10)
/-- Behind the blanks from a place on. -/
def skp (l : List UInt8) (i : Nat) : Nat := i + ((l.drop i).takeWhile blB).length
/-- The digits from a place on. -/
def dgs (l : List UInt8) (i : Nat) : List UInt8 := (l.drop i).takeWhile digB
def numv (ds : List UInt8) : Int := if goodN ds then val ds else -1
/-- What a text of runs comes to: a fault at a place, a pattern's cells, or it goes on from a place, in a row and a column. -/
inductive Out
  | bad (pl : Nat) (e : Int)
  | ok (F : Nat → Nat)
  | go (i row col : Nat) (F : Nat → Nat)
/-- So many cells from one on live. -/
def fill (F : Nat → Nat) (a n : Nat) (k : Nat) : Nat := if a ≤ k ∧ k < a + n then 1 else F k
def cnt (ds : List UInt8) : Nat := if ds = [] then 1 else (val ds).toNat
/-- What a tag does. -/
def stepT (l : List UInt8) (W H j row col : Nat) (F : Nat → Nat) (ds : List UInt8) (c : UInt8) : Out :=
  if c = 98 ∨ c = 111 then (if H ≤ row ∨ W < col + cnt ds then .bad j 1 else .go (j + ds.length + 1) row (col + cnt ds) (if c = 111 then fill F (row * W + col) (cnt ds) else F))
  else if c = 36 then (if H ≤ row + cnt ds then .bad j 1 else .go (j + ds.length + 1) (row + cnt ds) 0 F)
  else if c = 33 then (if ds ≠ [] then .bad (j + ds.length) 2 else if skp l (j + ds.length + 1) < l.length then .bad (skp l (j + ds.length + 1)) 2 else .ok F)
  else .bad (j + ds.length) 2
/-- What stands from a place on, behind blanks. -/
def stepJ (l : List UInt8) (W H j row col : Nat) (F : Nat → Nat) (ds : List UInt8) : Out :=
  if ds ≠ [] ∧ (numv ds < 2 ∨ 6 < ds.length) then .bad j 2
  else if l.length ≤ j + ds.length then .bad (j + ds.length) 2
  else stepT l W H j row col F ds (l.getD (j + ds.length) 0)
def step (l : List UInt8) (W H i row col : Nat) (F : Nat → Nat) : Out := stepJ l W H (skp l i) row col F (dgs l (skp l i))
def run (l : List UInt8) (W H : Nat) : Nat → Nat → Nat → Nat → (Nat → Nat) → Out
  | 0, _, _, _, _ => .bad 0 0
  | k + 1, i, row, col, F => match step l W H i row col F with
    | .go i' row' col' F' => run l W H k i' row' col' F'
    | o => o
theorem stepT_go {l : List UInt8} {W H j row col : Nat} {F : Nat → Nat} {ds : List UInt8} {c : UInt8} {i' row' col' : Nat} {F' : Nat → Nat} (h : stepT l W H j row col F ds c = .go i' row' col' F') : i' = j + ds.length + 1 ∧ ((row' = row ∧ row < H ∧ col' ≤ W) ∨ (row' < H ∧ col' = 0)) := by
  unfold stepT at h
  split at h
  · split at h
    · cases h
    · cases h
      exact ⟨rfl, .inl ⟨rfl, by omega, by omega⟩⟩
  · split at h
    · split at h
      · cases h
      · cases h
        exact ⟨rfl, .inr ⟨by omega, rfl⟩⟩
    · split at h
      · split at h
        · cases h
        · split at h <;> cases h
      · cases h
theorem step_go {l : List UInt8} {W H i row col : Nat} {F : Nat → Nat} {i' row' col' : Nat} {F' : Nat → Nat} (h : step l W H i row col F = .go i' row' col' F') : i < i' ∧ i' ≤ l.length ∧ ((row' = row ∧ row < H ∧ col' ≤ W) ∨ (row' < H ∧ col' = 0)) := by
  unfold step stepJ at h
  split at h
  · cases h
  · split at h
    · cases h
    · have := stepT_go h
      have hs : i ≤ skp l i := Nat.le_add_right _ _
      exact ⟨by omega, by omega, this.2⟩
theorem run_fuel (l : List UInt8) (W H : Nat) : ∀ k m i row col F, l.length < k + i → l.length < m + i → i ≤ l.length → run l W H k i row col F = run l W H m i row col F
  | 0, _, i, row, col, F, h, _, hi => by omega
  | _, 0, i, row, col, F, _, h, hi => by omega
  | k + 1, m + 1, i, row, col, F, h, h2, hi => by
    unfold run
    cases hs : step l W H i row col F with
    | bad => rfl
    | ok => rfl
    | go i' row' col' F' =>
      have := step_go hs
      exact run_fuel l W H k m i' row' col' F' (by omega) (by omega) this.2.1
/-- What comes of a text from a place on. -/
def runR (l : List UInt8) (W H i row col : Nat) (F : Nat → Nat) : Out := run l W H (l.length + 1 - i) i row col F
theorem runR_go {l : List UInt8} {W H i row col : Nat} {F : Nat → Nat} {i' row' col' : Nat} {F' : Nat → Nat} (hi : i ≤ l.length) (h : step l W H i row col F = .go i' row' col' F') : runR l W H i row col F = runR l W H i' row' col' F' := by
  have := step_go h
  unfold runR
  rw [show l.length + 1 - i = (l.length - i) + 1 by omega, run, h]
  exact run_fuel l W H _ _ _ _ _ _ (by omega) (by omega) this.2.1
theorem runR_bad {l : List UInt8} {W H i row col : Nat} {F : Nat → Nat} {p : Nat} {e : Int} (hi : i ≤ l.length) (h : step l W H i row col F = .bad p e) : runR l W H i row col F = .bad p e := by
  unfold runR
  rw [show l.length + 1 - i = (l.length - i) + 1 by omega, run, h]
theorem runR_ok {l : List UInt8} {W H i row col : Nat} {F F' : Nat → Nat} (hi : i ≤ l.length) (h : step l W H i row col F = .ok F') : runR l W H i row col F = .ok F' := by
  unfold runR
  rw [show l.length + 1 - i = (l.length - i) + 1 by omega, run, h]

/-- How far a word stands there. -/
def far (l ws : List UInt8) (i : Nat) : Nat → Nat
  | 0 => 0
  | k + 1 => if far l ws i k = k ∧ i + k < l.length ∧ l.getD (i + k) 0 = ws.getD k 0 then k + 1 else far l ws i k
/-- What stands ahead: a fault, or two sides and the place behind them. -/
inductive Hd
  | bad (pl : Nat) (e : Int)
  | ok (W H i : Nat)
def side (l : List UInt8) (i : Nat) (ds : List UInt8) (K : Nat → Nat → Hd) : Hd :=
  if numv ds < 0 ∨ 6 < ds.length then .bad i 2 else if 100 < numv ds then .bad i 1 else K (numv ds).toNat (i + ds.length)
def word (l ws : List UInt8) (i : Nat) (K : Nat → Hd) : Hd := if far l ws i ws.length < ws.length then .bad (i + far l ws i ws.length) 2 else K (i + ws.length)
def w1 : List UInt8 := [120, 32, 61, 32]
def w2 : List UInt8 := [44, 32, 121, 32, 61, 32]
def w3 : List UInt8 := [10]
def head (l : List UInt8) : Hd := word l w1 0 fun i => side l i (dgs l i) fun W i => word l w2 i fun i => side l i (dgs l i) fun H i => word l w3 i fun i => .ok W H i
/-- What a text comes to. -/
inductive Fn
  | bad (pl : Nat) (e : Int)
  | ok (W H : Nat) (F : Nat → Nat)
def fin (W H : Nat) : Out → Fn
  | .bad p e => .bad p e
  | .ok F => .ok W H F
  | .go _ _ _ _ => .bad 0 0
def parse (l : List UInt8) : Fn := if 40000 < l.length then .bad 0 4 else match head l with
  | .bad p e => .bad p e
  | .ok W H i => fin W H (runR l W H i 0 0 fun _ => 0)
end Pr
end Go.Proofs.YtgagophijmiceaaDoor
