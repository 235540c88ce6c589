/- A SLICE OF TILES THAT CAME IN. -/
import Derived.Test.YthggpjpmjhaidaaDoorWgW
import Derived.Test.YthggpjpmjhaidaaDoorOpenI
namespace Go.Proofs.YthggpjpmjhaidaaDoor
set_option linter.unusedSimpArgs false
set_option linter.unusedVariables false
open Go.ChangeShapes Go.WideShapes Go.ChangeAt Go.RowKit Go.Deep
namespace Wg
open Mem
theorem tile_fields {fs : Array Field} (h : Tryd.prog.underlying 89 = some (.struct fs)) : fs.size = 4 ∧ ∀ (j : Nat) (f : Field), fs[j]? = some f → f.offset = j ∧ Tryd.prog.cellsOf f.type = 1 ∧ Tryd.prog.underlying f.type = some (.int .i64) := by
  have e := h
  rw [Tryd.underlying89] at e
  simp only [Option.some.injEq, TypeDesc.struct.injEq] at e
  subst e
  refine ⟨rfl, fun j f hf => ?_⟩
  have hc : Tryd.prog.cellsOf 3 = 1 := by kernel_rfl
  have hu : Tryd.prog.underlying 3 = some (.int .i64) := Tryd.underlying3
  match j, hf with
  | 0, hf => cases hf; exact ⟨rfl, hc, hu⟩
  | 1, hf => cases hf; exact ⟨rfl, hc, hu⟩
  | 2, hf => cases hf; exact ⟨rfl, hc, hu⟩
  | 3, hf => cases hf; exact ⟨rfl, hc, hu⟩
  | j + 4, hf => simp at hf
theorem tile_cells : Tryd.prog.cellsOf 89 = 4 := by kernel_rfl
set_option maxRecDepth 100000 in
theorem open_tiles {H : Type} {enc : TypeId × Value → H} {w : World} {base : Nat} {spare : Nat → Bool} {held : Bool} {v : Value} {d : DataW H} {p : List MemPlace} {r : Reach} {b0 : Nat}
    (hv : Value.okWide Tryd.prog w r b0 22 v) (h : DataW.Trod enc Tryd.prog w base spare held 22 v d p) : ∃ a n c ts, v = .slice a n c ∧ Tiles w a n ts := by
  obtain ⟨hs, hf⟩ := tile_fields Tryd.underlying89
  obtain ⟨a, n, c, f, rfl, hnc, hm, hr, _, _⟩ := Mem.open_int_structs (s := 4) Tryd.underlying22 Tryd.underlying89 hs tile_cells hf (Nat.succ_pos 3) hv h
  refine ⟨a, n, c, (List.range n).map fun i => ⟨f i 0, f i 1, f i 2, f i 3⟩, rfl, by simp, fun i hi => ?_, Nat.le_trans hnc hm⟩
  obtain ⟨b, off, e, hlt, hc⟩ := hr i hi
  refine ⟨b, off, e, hlt, fun j hj => ?_⟩
  rw [hc j hj]
  have hg : ((List.range n).map fun i => (⟨f i 0, f i 1, f i 2, f i 3⟩ : Tl)).getD i noTile = ⟨f i 0, f i 1, f i 2, f i 3⟩ := by
    rw [List.getD_eq_getElem?_getD, List.getElem?_map, List.getElem?_range hi]; rfl
  dsimp only
  rw [hg]
  match j, hj with
  | 0, _ => rfl
  | 1, _ => rfl
  | 2, _ => rfl
  | 3, _ => rfl
end Wg
end Go.Proofs.YthggpjpmjhaidaaDoor
