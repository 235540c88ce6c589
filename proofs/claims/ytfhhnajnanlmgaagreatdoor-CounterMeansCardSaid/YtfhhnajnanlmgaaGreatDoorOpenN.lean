/- A MACHINE THAT CAME IN: a slice of lines. -/
import Derived.Test.YtfhhnajnanlmgaaGreatDoorCrA
import Derived.Test.YtfhhnajnanlmgaaGreatDoorOpenI
import Derived.LaidLaws
import Derived.LaidSub
namespace Go.Proofs.YtfhhnajnanlmgaaGreatDoor
set_option linter.unusedSimpArgs false
set_option linter.unusedVariables false
open Go.ChangeShapes Go.WideShapes Go.ChangeAt Go.RowKit Go.Deep
namespace Cr
open Mem
theorem ins_fields {fs : Array Field} (h : Tryz.prog.underlying 34 = some (.struct fs)) : fs.size = 4 ∧ ∀ (j : Nat) (f : Field), fs[j]? = some f → f.offset = j ∧ Tryz.prog.cellsOf f.type = 1 ∧ Tryz.prog.underlying f.type = some (.int .i64) := by
  have e := h
  rw [Tryz.underlying34] at e
  simp only [Option.some.injEq, TypeDesc.struct.injEq] at e
  subst e
  refine ⟨rfl, fun j f hf => ?_⟩
  have hc : Tryz.prog.cellsOf 3 = 1 := by kernel_rfl
  have hu : Tryz.prog.underlying 3 = some (.int .i64) := Tryz.underlying3
  match j, hf with
  | 0, hf => cases hf; exact ⟨rfl, hc, hu⟩
  | 1, hf => cases hf; exact ⟨rfl, hc, hu⟩
  | 2, hf => cases hf; exact ⟨rfl, hc, hu⟩
  | 3, hf => cases hf; exact ⟨rfl, hc, hu⟩
  | j + 4, hf => simp at hf
theorem ins_cells : Tryz.prog.cellsOf 34 = 4 := by kernel_rfl
theorem wf_le {n : Int} (h : (Lit.int .i64 n).wf = true) : n ≤ 9223372036854775807 := by
  simp [Lit.wf, IntKind.min, IntKind.max, IntKind.signed, IntKind.bits] at h
  omega
set_option maxRecDepth 100000 in
theorem open_code {H : Type} {enc : TypeId × Value → H} {w : World} {base : Nat} {spare : Nat → Bool} {held : Bool} {v : Value} {d : DataW H} {p : List MemPlace} {r : Reach} {b0 : Nat}
    (hv : Value.okWide Tryz.prog w r b0 22 v) (h : DataW.Trod enc Tryz.prog w base spare held 22 v d p) : ∃ a n c, ∃ f : Nat → Nat → Int, v = .slice a n c ∧ n ≤ 9223372036854775807 ∧ Mem.Rows w a n 4 (fun i j => .int .i64 (f i j)) := by
  obtain ⟨hs, hf⟩ := ins_fields Tryz.underlying34
  obtain ⟨a, n, c, f, rfl, hnc, hm, hr, hwf, _⟩ := Mem.open_int_structs (s := 4) Tryz.underlying22 Tryz.underlying34 hs ins_cells hf (Nat.succ_pos 3) hv h
  unfold maxLen at hm
  exact ⟨a, n, c, f, rfl, Nat.le_trans hnc hm, hr⟩

end Cr
end Go.Proofs.YtfhhnajnanlmgaaGreatDoor
