/- A GRAPH THAT CAME IN: a number and a slice of structs of ints; over any program. -/
import Derived.Test.YtjikildiblchpaaOpenI
import Derived.Lib.SmallJoins
namespace Go.Proofs.Ytjikildiblchpaa
set_option linter.unusedSimpArgs false
set_option linter.unusedVariables false
open Go.ChangeShapes Go.WideShapes Go.ChangeAt Go.RowKit Go.Deep Go.Joins
namespace Mem
section
variable {H : Type} {enc : TypeId × Value → H} {P : Program} {w : World} {base : Nat} {spare : Nat → Bool} {held : Bool}
/-- A slice of structs of ints in a field. -/
theorem open_structs_cell {t e : TypeId} {fs : Array Field} {s : Nat} {v : Value} {x : DataW H × List MemPlace} {fuel : Nat} (ht : P.underlying t = some (.slice e)) (he : P.underlying e = some (.struct fs)) (hs : fs.size = s) (hc : P.cellsOf e = s)
    (hf : ∀ (j : Nat) (f : Field), fs[j]? = some f → f.offset = j ∧ P.cellsOf f.type = 1 ∧ P.underlying f.type = some (.int .i64)) (hs0 : 0 < s)
    (h : DataW.trod enc P w base spare held fuel t [v] = some x) :
    ∃ a n c, ∃ f : Nat → Nat → Int, v = .slice a n c ∧ n ≤ c ∧ c ≤ maxLen ∧ Rows w a n s (fun i j => .int .i64 (f i j)) ∧ (∀ i, i < n → ∀ j, j < s → (Lit.int .i64 (f i j)).wf = true) ∧ (a = none → n = 0 ∧ c = 0) := by
  obtain ⟨d, p⟩ := x
  rcases open_slice ht h with ⟨hcs, _⟩ | ⟨x, l, c, m, n, D, Pl, hcs, _, hl, hm, hmm, _, hx⟩
  · simp at hcs
    subst hcs
    exact ⟨none, 0, 0, fun _ _ => 0, rfl, Nat.le_refl _, Nat.zero_le _, fun i hi => absurd hi (Nat.not_lt_zero _), fun i hi => absurd hi (Nat.not_lt_zero _), fun _ => ⟨rfl, rfl⟩⟩
  · simp at hcs
    subst hcs
    have hlm : l ≤ m := by rw [hmm]; split <;> omega
    have each : ∀ i, i < l → ∀ j, j < s → ∃ z : Int, w.cell? ((x.add (i * s)).add j) = some (.int .i64 z) ∧ (Lit.int .i64 z).wf = true := by
      intro i hi j hj
      obtain ⟨cs', h1, h2⟩ := hx i (by omega)
      rw [hc] at h1
      obtain ⟨_, hlen, hcell⟩ := World.cells?_some h1
      obtain ⟨z, hz, hw⟩ := struct_ints he hf h2 (j := j) (by omega) (by omega)
      exact ⟨z, (hcell j hj).trans hz, hw⟩
    obtain ⟨f, hF⟩ := choose_ij each
    refine ⟨some x, l, c, f, rfl, hl, hm, fun i hi => ?_, fun i hi j hj => (hF i hi j hj).2, fun h => by cases h⟩
    have h0 := (hF 0 (by omega) 0 hs0).1
    have hsp : x.spot = none := by
      have := World.cell?_spot h0
      simpa [Addr.add] using this
    obtain ⟨b, off, spot⟩ := x
    simp only at hsp
    subst hsp
    refine ⟨b, off, rfl, ?_, fun j hj => ?_⟩
    · rw [add_plain, add_plain] at h0
      exact lt_of_cell h0
    · have := (hF i hi j hj).1
      rwa [add_plain, add_plain] at this
theorem open_graph {t e : TypeId} {f0 f1 : Field} {fs : Array Field} {v : Value} {d : DataW H} {p : List MemPlace} {r : Reach} {b0 : Nat} (hs : P.underlying t = some (.struct #[f0, f1])) (hone : oneCellFields P #[f0, f1] = true) (hC : P.cellsOf t = 2)
    (h0 : P.underlying f0.type = some (.int .i64)) (h1 : P.underlying f1.type = some (.slice e)) (he : P.underlying e = some (.struct fs)) (hfs : fs.size = 3) (hc : P.cellsOf e = 3)
    (hf : ∀ (j : Nat) (f : Field), fs[j]? = some f → f.offset = j ∧ P.cellsOf f.type = 1 ∧ P.underlying f.type = some (.int .i64))
    (hv : Value.okWide P w r b0 t v) (h : DataW.Trod enc P w base spare held t v d p) :
    ∃ N : Int, ∃ a n c, ∃ f : Nat → Nat → Int, v = .agg #[.int .i64 N, .slice a n c] ∧ n ≤ c ∧ c ≤ maxLen ∧ Rows w a n 3 (fun i j => .int .i64 (f i j)) := by
  obtain ⟨c0, c1, y0, y1, m, rfl, _, _, hy0, hy1⟩ := open_agg2 hs hone hC hv h
  obtain ⟨x, e0, _, wx⟩ := DataW.trod_int h0 hy0
  obtain ⟨a, n, c, f, rfl, h3, h4, h5, _, _⟩ := open_structs_cell h1 he hfs hc hf (by decide) hy1
  simp at e0
  subst e0
  exact ⟨x, a, n, c, f, rfl, h3, h4, h5⟩
/-- How long a slice of ints that came in can be told to be. -/
theorem ints_told {t e : TypeId} {k : IntKind} {a : Option Addr} {n c : Nat} {d : DataW H} {p : List MemPlace} (ht : P.underlying t = some (.slice e)) (he : P.underlying e = some (.int k)) (hc : P.cellsOf e = 1)
    (h : DataW.Trod enc P w base spare held t (.slice a n c) d p) : n = 0 ∨ ∃ el sp, d = .slice el sp ∧ n ≤ el.length + sp.length := by
  obtain ⟨fuel, hf⟩ := h
  rcases open_ints ht he hc hf with ⟨hcs, _⟩ | ⟨x, l, c', zs, hcs, _, hl, hm, hz, hx, _, _⟩
  · simp [Value.cells] at hcs
    exact .inl hcs.2.1
  · simp [Value.cells] at hcs
    obtain ⟨e1, e2, e3⟩ := hcs
    subst e1 e2 e3
    simp only [Prod.mk.injEq] at hx
    refine .inr ⟨_, _, hx.1, ?_⟩
    have : n ≤ zs.length := by rw [hz]; split <;> omega
    simp [lits]
    omega
end
end Mem
end Go.Proofs.Ytjikildiblchpaa
