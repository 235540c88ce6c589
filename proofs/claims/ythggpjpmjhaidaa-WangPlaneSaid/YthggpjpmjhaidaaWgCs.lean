/- PLAIN: numbers of cells, as the memory has them. -/
import Derived.Test.YthggpjpmjhaidaaWgD
import Derived.Test.YthggpjpmjhaidaaWgFt
import Derived.Test.YthggpjpmjhaidaaWgPl2
namespace Go.Proofs.Ythggpjpmjhaidaa
set_option linter.unusedSimpArgs false
set_option linter.unusedVariables false
open Go.RowKit Go.Lib
namespace Wg
open Tld Mem
def casts (l : List Nat) : List Int := l.map fun (k : Nat) => (k : Int)
theorem casts_get (l : List Nat) (j : Nat) : (casts l).getD j 0 = ((l.getD j 0 : Nat) : Int) := by
  unfold casts
  rw [List.getD_eq_getElem?_getD, List.getElem?_map, List.getD_eq_getElem?_getD]
  cases l[j]? <;> rfl
theorem zt_casts (ts : List Tl) (l : List Nat) : zt ts (casts l) = tl (fun i => ts.getD i noTile) l := by
  funext k
  unfold zt tl
  rw [casts_get, Int.toNat_natCast]
theorem casts_length (l : List Nat) : (casts l).length = l.length := by unfold casts; simp
theorem nats_get {l : List Nat} {i : Nat} (h : i < l.length) : (nats l)[i]? = some (.int .i64 ((casts l).getD i 0)) := by
  rw [casts_get]
  unfold nats
  rw [List.getElem?_map, List.getD_eq_getElem?_getD, List.getElem?_eq_getElem h]
  rfl
theorem cells_own {w : World} {B : Nat} {ad : Option Addr} {c : Nat} {l : List Nat} (h : w.ownsRow B 3 1 (.slice ad l.length c) l.length (nats l)) : Cells w ad l.length (fun i => .int .i64 ((casts l).getD i 0)) := fun i hi => by
  rcases h.2 with ⟨_, h0⟩ | ⟨g, cap, cur, hv, hB, hg, hnc, hcm, hcs, ht⟩
  · omega
  · cases hv
    refine ⟨g, 0, rfl, (Array.getElem?_eq_some_iff.1 hg).1, ?_⟩
    have := own_cell h (nats_get hi)
    rwa [Nat.zero_add]
theorem casts_mem {l : List Nat} {n : Nat} (h : ∀ x ∈ l, x < n) : ∀ z ∈ casts l, 0 ≤ z ∧ z < (n : Int) := by
  intro z hz
  unfold casts at hz
  obtain ⟨x, hx, rfl⟩ := List.mem_map.1 hz
  have := h x hx
  omega
/-- Numbers that are none below 0 are casts. -/
theorem casts_of {zs : List Int} (h : ∀ z ∈ zs, 0 ≤ z) : zs = casts (zs.map Int.toNat) := by
  unfold casts
  rw [List.map_map]
  conv => lhs; rw [← List.map_id zs]
  refine List.map_congr_left fun z hz => ?_
  have := h z hz
  show z = ((z.toNat : Nat) : Int)
  omega
/-- One tile that fits to itself. -/
theorem one_dec (T : Nat → Tl) (h : T 0 = ⟨1, 2, 1, 2⟩) : decS T 1 1 = some ⟨true, 1, 1, [0]⟩ := by
  have hg : Good 1 1 true (tl T [0]) := by
    have e : ∀ k, k < 1 → tl T [0] k = ⟨1, 2, 1, 2⟩ := fun k hk => by
      obtain rfl : k = 0 := by omega
      exact h
    refine ⟨fun y hy x hx => by omega, fun y hy x hx => by omega, fun _ y hy => ?_, fun _ x hx => ?_⟩
    · obtain rfl : y = 0 := by omega
      show (tl T [0] 0).r = (tl T [0] 0).l
      rw [e 0 (by omega)]
    · obtain rfl : x = 0 := by omega
      show (tl T [0] 0).d = (tl T [0] 0).u
      rw [e 0 (by omega)]
  have hf : fillS T 1 1 1 true = some [0] := by
    unfold fillS
    show ff 1 _ 1 [] = _
    unfold ff
    have : ff 1 (fun cs => Good 1 1 true (tl T cs)) 0 ([] ++ [0]) = some [0] := by
      unfold ff
      exact if_pos hg
    unfold tr
    rw [this]
  have h1 : wideF T 1 1 1 1 = some ⟨true, 1, 1, [0]⟩ := wideF_some (.inl rfl) hf
  have h2 : highF T 1 1 1 = some ⟨true, 1, 1, [0]⟩ := by unfold highF; exact tr_hit (by omega) h1
  have h3 : allF T 1 1 = some ⟨true, 1, 1, [0]⟩ := by unfold allF; exact tr_hit (by omega) h2
  unfold decS
  exact tr_hit (by omega) (sizeF_all h3)
end Wg
end Go.Proofs.Ythggpjpmjhaidaa
