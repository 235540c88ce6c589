/- A PATTERN THAT CAME IN: two sides and a slice of numbers; over any program. -/
import Derived.Test.YtgagophijmiceaaDoorMem
import Derived.Lib.SmallJoins
namespace Go.Proofs.YtgagophijmiceaaDoor
set_option linter.unusedSimpArgs false
set_option linter.unusedVariables false
open Go.ChangeShapes Go.WideShapes Go.ChangeAt Go.RowKit Go.Deep Go.Joins
namespace Mem
section
variable {H : Type} {enc : TypeId × Value → H} {P : Program} {w : World} {base : Nat} {spare : Nat → Bool} {held : Bool}
/-- A slice of integers in a field. -/
theorem open_ints_cell {t e : TypeId} {k : IntKind} {v : Value} {x : DataW H × List MemPlace} {fuel : Nat} (ht : P.underlying t = some (.slice e)) (he : P.underlying e = some (.int k)) (hc : P.cellsOf e = 1)
    (hf : DataW.trod enc P w base spare held fuel t [v] = some x) :
    ∃ a n c, ∃ zs : List Int, v = .slice a n c ∧ zs.length = n ∧ n ≤ c ∧ c ≤ maxLen ∧ Cells w a n (fun i => .int k (zs.getD i 0)) ∧ (∀ z ∈ zs, (Lit.int k z).wf = true) ∧ (a = none → n = 0 ∧ c = 0) := by
  obtain ⟨d, p⟩ := x
  rcases open_ints ht he hc hf with ⟨hcs, _⟩ | ⟨x, l, c, zs, hcs, _, hl, hm, hz, _, hcell, hwz⟩
  · simp at hcs
    subst hcs
    exact ⟨none, 0, 0, [], rfl, rfl, Nat.le_refl _, Nat.zero_le _, fun i hi => absurd hi (Nat.not_lt_zero _), fun _ h => by simp at h, fun _ => ⟨rfl, rfl⟩⟩
  · simp at hcs
    subst hcs
    have hlen : l ≤ zs.length := by rw [hz]; split <;> omega
    refine ⟨some x, l, c, zs.take l, rfl, by simp; omega, hl, hm, ?_, fun z hz' => hwz z (List.mem_of_mem_take hz'), fun h => by cases h⟩
    refine cells_of fun i hi => ?_
    rw [hcell i (by omega), List.getD_eq_getElem?_getD, List.getD_eq_getElem?_getD, List.getElem?_take_of_lt hi]
/-- A struct of two ints and a slice of ints. -/
theorem open_pattern {t e : TypeId} {f0 f1 f2 : Field} {v : Value} {d : DataW H} {p : List MemPlace} {r : Reach} {b0 : Nat} (hs : P.underlying t = some (.struct #[f0, f1, f2])) (hone : oneCellFields P #[f0, f1, f2] = true) (hC : P.cellsOf t = 3)
    (h0 : P.underlying f0.type = some (.int .i64)) (h1 : P.underlying f1.type = some (.int .i64)) (h2 : P.underlying f2.type = some (.slice e)) (he : P.underlying e = some (.int .i64)) (hc : P.cellsOf e = 1)
    (hv : Value.okWide P w r b0 t v) (h : DataW.Trod enc P w base spare held t v d p) :
    ∃ W H' : Int, ∃ a n c, ∃ zs : List Int, v = .agg #[.int .i64 W, .int .i64 H', .slice a n c] ∧ zs.length = n ∧ n ≤ c ∧ c ≤ maxLen ∧ Cells w a n (fun i => .int .i64 (zs.getD i 0)) ∧ (Lit.int .i64 W).wf = true ∧ (Lit.int .i64 H').wf = true ∧ (a = none → n = 0 ∧ c = 0) := by
  obtain ⟨c0, c1, c2, y0, y1, y2, m, rfl, _, _, hy0, hy1, hy2⟩ := open_agg3 hs hone hC hv h
  obtain ⟨x, e0, _, wx⟩ := DataW.trod_int h0 hy0
  obtain ⟨y, e1, _, wy⟩ := DataW.trod_int h1 hy1
  obtain ⟨a, n, c, zs, rfl, h3, h4, h5, h6, _, h7⟩ := open_ints_cell h2 he hc hy2
  simp at e0 e1
  subst e0 e1
  exact ⟨x, y, a, n, c, zs, rfl, h3, h4, h5, h6, wx, wy, h7⟩
end
end Mem
end Go.Proofs.YtgagophijmiceaaDoor
