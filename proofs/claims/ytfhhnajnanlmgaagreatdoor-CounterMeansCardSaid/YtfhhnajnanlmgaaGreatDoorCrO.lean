/- MEMORY OF THE CALL's OWN: lists of numbers and of fractions that grow. -/
import Derived.Test.YtfhhnajnanlmgaaGreatDoorCrA
import Derived.Maps.AppendAt
namespace Go.Proofs.YtfhhnajnanlmgaaGreatDoor
set_option linter.unusedSimpArgs false
set_option linter.unusedVariables false
open Go.RowKit
namespace Cr
open Tld Mem

theorem infoIntN : (Tryz.prog.info? 3).map (fun i => (i.zero, i.size, i.bytes)) = some (some (.int .i64 0), 1, 8) := by kernel_rfl
theorem infoFracN : (Tryz.prog.info? 75).map (fun i => (i.zero, i.size, i.bytes)) = some (some (.agg #[.int .i64 0, .int .i64 0]), 2, 16) := by kernel_rfl
theorem own_nil (w : World) (B : Nat) (e : TypeId) (s : Nat) : w.ownsRow B e s (.slice none 0 0) 0 [] := ⟨by simp, .inl ⟨rfl, rfl⟩⟩
theorem own_low {w : World} {B s : Nat} {e : TypeId} {v : Value} {n : Nat} {xs : List Value} (h : w.ownsRow B e s v n xs) : ∀ k, v.ownBlock = some k → B ≤ k := fun k hk => (h.lt k hk).1
theorem own_is {w : World} {B : Nat} {a : Option Addr} {n c : Nat} {zs : List Int} (h : w.ownsRow B 3 1 (.slice a n c) n (zs.map (Value.int .i64))) (hz : zs.length = n) (hn : n ≤ maxLen) : Ints.Is w a n zs := by
  rcases h.2 with ⟨hv, h0⟩ | ⟨g, cap, cur, hv, hB, hg, hnc, hcm, hcs, ht⟩
  · cases hv
    exact ⟨hz, fun i hi => absurd hi (Nat.not_lt_zero _), Nat.zero_le _⟩
  · cases hv
    refine ⟨hz, fun i hi => ⟨g, 0, rfl, (Array.getElem?_eq_some_iff.1 hg).1, ?_⟩, hn⟩
    have h1 : w.cell? ⟨g, 0 + i, none⟩ = cur[i]? := by simp [World.cell?, hg]
    rw [h1]
    have h3 : (cur.toList.take (n * 1))[i]? = (zs.map (Value.int .i64))[i]? := by rw [ht]
    rw [List.getElem?_take_of_lt (by omega), Array.getElem?_toList] at h3
    rw [h3, List.getElem?_map, List.getElem?_eq_getElem (by omega)]
    simp [List.getD_eq_getElem?_getD, List.getElem?_eq_getElem (show i < zs.length by omega)]
theorem own_slice {w : World} {B n s : Nat} {e : TypeId} {v : Value} {zs : List Value} (h : w.ownsRow B e s v n zs) : ∃ a c, v = .slice a n c := by
  rcases h.2 with ⟨rfl, h0⟩ | ⟨g, cap, cur, rfl, _⟩
  · exact ⟨none, 0, by rw [h0]⟩
  · exact ⟨_, _, rfl⟩
theorem own_stays {w w' : World} {B s : Nat} {e : TypeId} {v : Value} {n : Nat} {xs : List Value} (h : w.ownsRow B e s v n xs) (hb : Below w.heap.size w w') : w'.ownsRow B e s v n xs := by
  refine ⟨h.1, h.2.imp id ?_⟩
  rintro ⟨g, cap, cur, hv, hB, hg, h3⟩
  exact ⟨g, cap, cur, hv, hB, (hb.block g (Array.getElem?_eq_some_iff.1 hg).1).trans hg, h3⟩
theorem row_grown {w w' : World} {B s : Nat} {e T : TypeId} {v : Value} {n p : Nat} {xs cs : List Value} (h : w.ownsRow B e s v n xs) (hg : w.grownBy w' v.ownBlock) (hR : Row w p T cs) (hT : T ≠ e) : Row w' p T cs :=
  (hg.block p hR.lt (fun x => by
    rcases h.2 with ⟨hv, _⟩ | ⟨g, cap, cur, hv, _, hgg, _⟩
    · rw [hv] at x; cases x
    · rw [hv] at x
      have e1 : p = g := Option.some.inj x
      subst e1
      unfold Row at hR
      rw [hR] at hgg
      cases hgg
      exact hT rfl)).trans hR
theorem map_snoc (zs : List Int) (z : Int) : (zs ++ [z]).map (Value.int .i64) = zs.map (Value.int .i64) ++ [.int .i64 z] := by rw [List.map_append]; rfl
theorem int_mem {zs : List Int} {k : Nat} (h : k < zs.length) : zs.getD k 0 ∈ zs := by
  rw [List.getD_eq_getElem?_getD, List.getElem?_eq_getElem h]
  exact List.getElem_mem h
theorem any_no {zs : List Int} {p : Int → Bool} (h : ∀ k, k < zs.length → p (zs.getD k 0) = false) : zs.any p = false := by
  rw [List.any_eq_false]
  intro z hz
  obtain ⟨k, hk, rfl⟩ := List.getElem_of_mem hz
  have := h k hk
  rw [List.getD_eq_getElem?_getD, List.getElem?_eq_getElem hk] at this
  exact Bool.eq_false_iff.1 this
theorem any_yes {zs : List Int} {p : Int → Bool} {k : Nat} (hk : k < zs.length) (h : p (zs.getD k 0) = true) : zs.any p = true :=
  List.any_eq_true.2 ⟨_, int_mem hk, h⟩

/-! ### the first primes -/
def PL : List Nat := [2, 3, 5, 7, 11, 13, 17, 19, 23, 29, 31, 37, 41, 43, 47, 53, 59, 61, 67, 71, 73, 79, 83, 89, 97, 101, 103, 107]
/-- Those below a number. -/
def pl (k : Nat) : List Nat := PL.filter (· < k)
def plz (k : Nat) : List Int := (pl k).map fun p : Nat => (p : Int)
/-- The first so many. -/
def prim (n : Nat) : List Int := (PL.take n).map fun p : Nat => (p : Int)
def hasDiv (k : Nat) : Bool := (pl k).any fun p => k % p == 0
theorem pl_two : pl 2 = [] := by decide
theorem pl_next : ∀ k, k < 108 → 2 ≤ k → pl (k + 1) = if hasDiv k then pl k else pl k ++ [k] := by decide +kernel
theorem pl_most : ∀ k, k < 109 → (pl k).length < 28 → k < 108 := by decide +kernel
theorem pl_take : ∀ k, k < 109 → pl k = PL.take (pl k).length := by decide +kernel
theorem pl_pos : ∀ k, k < 109 → ∀ p ∈ pl k, 2 ≤ p ∧ p ≤ 107 := by decide +kernel
theorem plz_len (k : Nat) : (plz k).length = (pl k).length := by unfold plz; rw [List.length_map]
theorem plz_next {k : Nat} (h : k < 108) (h2 : 2 ≤ k) : plz (k + 1) = if hasDiv k then plz k else plz k ++ [(k : Int)] := by
  unfold plz
  rw [pl_next k h h2]
  split
  · rfl
  · rw [List.map_append]; rfl
theorem plz_done {k n : Nat} (h : k < 109) (hl : (plz k).length = n) : plz k = prim n := by
  unfold prim
  rw [plz_len] at hl
  rw [← hl, ← pl_take k h]
  rfl
theorem plz_pos {k : Nat} (h : k < 109) : ∀ z ∈ plz k, 2 ≤ z ∧ z ≤ 107 := by
  intro z hz
  unfold plz at hz
  obtain ⟨p, hp, rfl⟩ := List.mem_map.1 hz
  have := pl_pos k h p hp
  omega
theorem plz_any {k : Nat} (h : k < 109) : (plz k).any (fun z => decide ((k : Int).tmod z = 0)) = hasDiv k := by
  unfold plz hasDiv
  rw [List.any_map]
  have hp := pl_pos k h
  generalize pl k = l at *
  induction l with
  | nil => rfl
  | cons p r ih =>
    simp only [List.any_cons, Function.comp]
    rw [ih (fun q hq => hp q (List.mem_cons_of_mem _ hq))]
    congr 1
    rw [Int.tmod_eq_emod_of_nonneg (by omega), ← Int.natCast_emod]
    by_cases h0 : k % p = 0
    · rw [h0]; rfl
    · rw [decide_eq_false (by omega)]
      symm
      rw [beq_eq_false_iff_ne]
      exact h0
theorem prim_len {n : Nat} (h : n ≤ 28) : (prim n).length = n := by
  unfold prim
  rw [List.length_map, List.length_take]
  have : PL.length = 28 := by decide
  omega
theorem prim_get : ∀ n, n < 29 → ∀ i, i < n → 2 ≤ (prim n).getD i 0 ∧ (prim n).getD i 0 ≤ 107 := by decide +kernel
/-- By trial of all that are smaller. -/
def isPr (k : Nat) : Bool := (List.range k).all fun i => i < 2 || k % i != 0
theorem isPr_eq : ∀ k, k < 108 → 2 ≤ k → isPr k = !hasDiv k := by decide +kernel
end Cr
end Go.Proofs.YtfhhnajnanlmgaaGreatDoor
