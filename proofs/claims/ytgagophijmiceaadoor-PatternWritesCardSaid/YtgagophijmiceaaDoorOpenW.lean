/- What the row's listed variables say: the marks, the table of powers of ten. -/
import Derived.Test.YtgagophijmiceaaDoorPwDw
import Derived.LaidLaws
import Derived.LaidSub
import Derived.Stop.LaidErr
namespace Go.Proofs.YtgagophijmiceaaDoor
set_option linter.unusedSimpArgs false
set_option linter.unusedVariables false
open Go.ChangeShapes Go.WideShapes Go.ChangeAt Go.RowKit Go.Deep
namespace Pw
open Mem
theorem gMarks : Tryd.prog.globalNamed "eden/pattern.marks" = some 0 := by kernel_rfl
theorem gMarksType : (Tryd.prog.globals[0]?).map (·.type) = some 80 := by kernel_rfl
theorem runeCells : Tryd.prog.cellsOf 21 = 1 := by kernel_rfl
theorem lits_inj {H : Type} {k : IntKind} : ∀ {l m : List Int}, (Go.ChangeShapes.lits k l : List (DataW H)) = Go.ChangeShapes.lits k m → l = m
  | [], [], _ => rfl
  | [], _ :: _, h => by simp [Go.ChangeShapes.lits] at h
  | _ :: _, [], h => by simp [Go.ChangeShapes.lits] at h
  | a :: l, b :: m, h => by
    simp only [Go.ChangeShapes.lits, List.map_cons, List.cons.injEq, DataW.lit.injEq, Lit.int.injEq, true_and] at h
    rw [h.1, lits_inj (H := H) (k := k) h.2]
set_option maxRecDepth 100000 in
theorem marks_of_laid {W : World} (h : laidMet Tryd.prog [("eden/pattern.marks", .slice [.lit (.int .i32 183), .lit (.int .i32 9679)] [])] W) : Marks W := by
  obtain ⟨ps, ⟨g0, t0, cs0, f0, p0, q0, hg0, ht0, hv0, hd0, _, e0⟩, hnd, hrows⟩ := h
  obtain rfl := Option.some.inj (gMarks.symm.trans hg0)
  obtain rfl := Option.some.inj (gMarksType.symm.trans ht0)
  obtain ⟨l0⟩ := cs0
  rcases open_ints Tryd.underlying80 Tryd.underlying21 runeCells hd0 with ⟨_, hx⟩ | ⟨x, l, c, zs, hcs, _, hl, hm, hz, hx, hcell, _⟩
  · cases hx
  · have h1 := (Prod.mk.inj hx).1
    simp only [DataW.slice.injEq] at h1
    have h2 : zs.take l = [183, 9679] := (lits_inj (H := Unit) (k := .i32) (l := [183, 9679]) h1.1).symm
    have h3 : zs.drop l = [] := (lits_inj (H := Unit) (k := .i32) (l := []) h1.2).symm
    have hzs : zs = [183, 9679] := by
      have := List.take_append_drop l zs
      rw [h2, h3] at this
      exact this.symm
    subst hzs
    have hl2 : l = 2 := by
      have e1 := congrArg List.length h2
      simp at e1 hz
      omega
    subst hl2
    have c0 := hcell 0 (by decide)
    have c1 := hcell 1 (by decide)
    have hs := spotless c0
    generalize x.block = b at *
    generalize x.off = o at *
    subst hs
    rw [Addr.add_mid] at c0 c1
    have hcs' : l0 = [.slice (some ⟨b, o, none⟩) 2 c] := hcs
    have hg : W.cell? ⟨0, 0, none⟩ = some (.slice (some ⟨b, o, none⟩) 2 c) := by
      rw [hcs'] at hv0
      simpa using World.var?_cell hg0 hv0 0
    exact ⟨b, o, c, lt_of_cell hg, lt_of_cell c0, hl, hg, c0, c1⟩
set_option maxRecDepth 100000 in
theorem tab_of_laid {W : World} {r : List (String × DataW Unit)} {d : DataW Unit} (hd : d = Lib.tabData .u64 Lib.pow10Tab) (h : laidMet Tryd.prog (("internal/strconv.uint64pow10", d) :: r) W) : Tab W := by
  subst hd
  exact Lib.tabIs_of_head (g := 4) (t := 158) (e := 151) (n := 20) (by kernel_rfl) (by kernel_rfl) Tryd.underlying158 Tryd.underlying151 (by kernel_rfl) (by kernel_rfl) h
end Pw
end Go.Proofs.YtgagophijmiceaaDoor
