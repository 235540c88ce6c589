/- A graph as an argument. -/
import Derived.Test.YtjikildiblchpaaChecked
import Derived.Test.YtjikildiblchpaaOpenG
namespace Go.Proofs.Ytjikildiblchpaa
set_option linter.unusedSimpArgs false
set_option linter.unusedVariables false
open Go.ChangeShapes Go.WideShapes Go.ChangeAt Go.RowKit Go.Deep Go.Joins
namespace Rt
theorem edge_cells : Try.prog.cellsOf 27 = 3 := by kernel_rfl
theorem edge_fields (fs : Array Field) (hs : Try.prog.underlying 27 = some (.struct fs)) : fs.size = 3 ∧ ∀ (j : Nat) (f : Field), fs[j]? = some f → f.offset = j ∧ Try.prog.cellsOf f.type = 1 ∧ Try.prog.underlying f.type = some (.int .i64) := by
  rw [Try.underlying27] at hs
  simp only [Option.some.injEq, TypeDesc.struct.injEq] at hs
  subst hs
  refine ⟨rfl, fun j f hj => ?_⟩
  match j, hj with
  | 0, hj => simp at hj; subst hj; exact ⟨rfl, by kernel_rfl, Try.underlying3⟩
  | 1, hj => simp at hj; subst hj; exact ⟨rfl, by kernel_rfl, Try.underlying3⟩
  | 2, hj => simp at hj; subst hj; exact ⟨rfl, by kernel_rfl, Try.underlying3⟩
  | j + 3, hj => simp at hj
set_option maxRecDepth 100000 in
theorem open_g {H : Type} {enc : TypeId × Value → H} {w : World} {base : Nat} {spare : Nat → Bool} {held : Bool} {v : Value} {d : DataW H} {p : List MemPlace} {r : Reach} {b0 : Nat}
    (hv : Value.okWide Try.prog w r b0 24 v) (h : DataW.Trod enc Try.prog w base spare held 24 v d p) :
    ∃ N : Int, ∃ a n c, ∃ f : Nat → Nat → Int, v = .agg #[.int .i64 N, .slice a n c] ∧ n ≤ c ∧ c ≤ maxLen ∧ Mem.Rows w a n 3 (fun i j => .int .i64 (f i j)) :=
  Mem.open_graph Try.underlying24 (by kernel_rfl) (by kernel_rfl) Try.underlying3 Try.underlying22 Try.underlying27 (edge_fields _ Try.underlying27).1 edge_cells (edge_fields _ Try.underlying27).2 hv h
end Rt
end Go.Proofs.Ytjikildiblchpaa
