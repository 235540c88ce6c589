/- A graph as an argument. -/
import Derived.Test.YtjikildiblchpaaDoorChecked
import Derived.Test.YtjikildiblchpaaDoorOpenG
namespace Go.Proofs.YtjikildiblchpaaDoor
set_option linter.unusedSimpArgs false
set_option linter.unusedVariables false
open Go.ChangeShapes Go.WideShapes Go.ChangeAt Go.RowKit Go.Deep Go.Joins
namespace Rt
theorem edge_cells : Tryd.prog.cellsOf 74 = 3 := by kernel_rfl
theorem edge_fields (fs : Array Field) (hs : Tryd.prog.underlying 74 = some (.struct fs)) : fs.size = 3 ∧ ∀ (j : Nat) (f : Field), fs[j]? = some f → f.offset = j ∧ Tryd.prog.cellsOf f.type = 1 ∧ Tryd.prog.underlying f.type = some (.int .i64) := by
  rw [Tryd.underlying74] at hs
  simp only [Option.some.injEq, TypeDesc.struct.injEq] at hs
  subst hs
  refine ⟨rfl, fun j f hj => ?_⟩
  match j, hj with
  | 0, hj => simp at hj; subst hj; exact ⟨rfl, by kernel_rfl, Tryd.underlying3⟩
  | 1, hj => simp at hj; subst hj; exact ⟨rfl, by kernel_rfl, Tryd.underlying3⟩
  | 2, hj => simp at hj; subst hj; exact ⟨rfl, by kernel_rfl, Tryd.underlying3⟩
  | j + 3, hj => simp at hj
set_option maxRecDepth 100000 in
theorem open_g {H : Type} {enc : TypeId × Value → H} {w : World} {base : Nat} {spare : Nat → Bool} {held : Bool} {v : Value} {d : DataW H} {p : List MemPlace} {r : Reach} {b0 : Nat}
    (hv : Value.okWide Tryd.prog w r b0 24 v) (h : DataW.Trod enc Tryd.prog w base spare held 24 v d p) :
    ∃ N : Int, ∃ a n c, ∃ f : Nat → Nat → Int, v = .agg #[.int .i64 N, .slice a n c] ∧ n ≤ c ∧ c ≤ maxLen ∧ Mem.Rows w a n 3 (fun i j => .int .i64 (f i j)) :=
  Mem.open_graph Tryd.underlying24 (by kernel_rfl) (by kernel_rfl) Tryd.underlying3 Tryd.underlying22 Tryd.underlying74 (edge_fields _ Tryd.underlying74).1 edge_cells (edge_fields _ Tryd.underlying74).2 hv h
end Rt
end Go.Proofs.YtjikildiblchpaaDoor
