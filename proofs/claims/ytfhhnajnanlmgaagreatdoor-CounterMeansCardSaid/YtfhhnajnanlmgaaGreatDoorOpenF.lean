/- A SLICE OF FRACTIONS THAT CAME IN; the sentinel that the row lists. -/
import Derived.Test.YtfhhnajnanlmgaaGreatDoorCpB
import Derived.Test.YtfhhnajnanlmgaaGreatDoorOpenI
import Derived.LaidLaws
import Derived.LaidSub
namespace Go.Proofs.YtfhhnajnanlmgaaGreatDoor
set_option linter.unusedSimpArgs false
set_option linter.unusedVariables false
open Go.ChangeShapes Go.WideShapes Go.ChangeAt Go.RowKit Go.Deep
namespace Cp
open Mem
theorem frac_fields {fs : Array Field} (h : Tryz.prog.underlying 75 = some (.struct fs)) : fs.size = 2 ∧ ∀ (j : Nat) (f : Field), fs[j]? = some f → f.offset = j ∧ Tryz.prog.cellsOf f.type = 1 ∧ Tryz.prog.underlying f.type = some (.int .i64) := by
  have e := h
  rw [Tryz.underlying75] at e
  simp only [Option.some.injEq, TypeDesc.struct.injEq] at e
  subst e
  refine ⟨rfl, fun j f hf => ?_⟩
  have hc : Tryz.prog.cellsOf 3 = 1 := by kernel_rfl
  have hu : Tryz.prog.underlying 3 = some (.int .i64) := Tryz.underlying3
  match j, hf with
  | 0, hf => cases hf; exact ⟨rfl, hc, hu⟩
  | 1, hf => cases hf; exact ⟨rfl, hc, hu⟩
  | j + 2, hf => simp at hf
theorem frac_cells : Tryz.prog.cellsOf 75 = 2 := by kernel_rfl
theorem wf_le {n : Int} (h : (Lit.int .i64 n).wf = true) : n ≤ 9223372036854775807 := by
  simp [Lit.wf, IntKind.min, IntKind.max, IntKind.signed, IntKind.bits] at h
  omega
set_option maxRecDepth 100000 in
theorem open_fracs {H : Type} {enc : TypeId × Value → H} {w : World} {base : Nat} {spare : Nat → Bool} {held : Bool} {v : Value} {d : DataW H} {p : List MemPlace} {r : Reach} {b0 : Nat}
    (hv : Value.okWide Tryz.prog w r b0 43 v) (h : DataW.Trod enc Tryz.prog w base spare held 43 v d p) : ∃ a n c, ∃ f : Nat → Nat → Int, v = .slice a n c ∧ n ≤ 9223372036854775807 ∧ Mem.Rows w a n 2 (fun i j => .int .i64 (f i j)) ∧ ∀ i, i < n → f i 0 ≤ 9223372036854775807 ∧ f i 1 ≤ 9223372036854775807 := by
  obtain ⟨hs, hf⟩ := frac_fields Tryz.underlying75
  obtain ⟨a, n, c, f, rfl, hnc, hm, hr, hwf, _⟩ := Mem.open_int_structs (s := 2) Tryz.underlying43 Tryz.underlying75 hs frac_cells hf (Nat.succ_pos 1) hv h
  unfold maxLen at hm
  exact ⟨a, n, c, f, rfl, Nat.le_trans hnc hm, hr, fun i hi => ⟨wf_le (hwf i hi 0 (by omega)), wf_le (hwf i hi 1 (by omega))⟩⟩

theorem gNone : Tryz.prog.globalNamed "eden/counter.errNone" = some 0 := by kernel_rfl
theorem gNoneType : (Tryz.prog.globals[0]?).map (·.type) = some 24 := by kernel_rfl
theorem esCells : Tryz.prog.cellsOf 185 = 1 := by kernel_rfl
theorem strCells : Tryz.prog.cellsOf 9 = 1 := by kernel_rfl
theorem star : "*" ++ "errors.errorString" = "*errors.errorString" := by decide
theorem esRow (u : TypeId) (h : Tryz.prog.typeName? 3 u = some "*errors.errorString") : u = 183 :=
  typeName_ptr_named (nm := "errors.errorString") (by rw [star]; kernel_rfl) (by kernel_rfl) (by decide) u (by rw [star]; exact h)
set_option maxRecDepth 100000 in
theorem sent_of_laid {W : World} {text : List UInt8} (h : laidMet Tryz.prog [("eden/counter.errNone", .iface "*errors.errorString" (.ptr (.agg [.lit (.string text)])))] W) : ∃ a, Sent W a := by
  obtain ⟨ps, ⟨g0, t0, cs0, f0, p0, q0, hg0, ht0, hv0, hd0, _, e0⟩, hnd, hrows⟩ := h
  obtain rfl := Option.some.inj (gNone.symm.trans hg0)
  obtain rfl := Option.some.inj (gNoneType.symm.trans ht0)
  subst e0
  obtain ⟨l0⟩ := cs0
  have ok0 : ∀ u v, l0 = [.iface u v] → Value.okWide Tryz.prog W .any 0 u v := fun u v e => by
    subst e
    exact (hrows 0 0 (by simp [MemPlace.row])).2 u v (by simpa using World.var?_cell hg0 hv0 0)
  obtain ⟨a0, s0, rfl, hc0, hs0, hz0, rfl⟩ := errorString_of_trod Tryz.underlying24 esRow Tryz.underlying183 Tryz.underlying185 rfl rfl Tryz.underlying9 esCells strCells hd0 ok0
  exact ⟨a0, by unfold Sent; simpa using World.var?_cell hg0 hv0 0⟩
end Cp
end Go.Proofs.YtfhhnajnanlmgaaGreatDoor
