/- Several texts laid together: OpenP OpenW OpenU. -/
import Derived.Test.YtgagophijmiceaaDoorMem
import Derived.Lib.SmallJoins
import Derived.Test.YtgagophijmiceaaDoorPwDw
import Derived.LaidLaws
import Derived.LaidSub
import Derived.Stop.LaidErr
import Derived.Test.YtgagophijmiceaaDoorPrD
import Derived.Lib.LaidU8
/- A PATTERN THAT CAME IN: two sides and a slice of numbers; over any program. -/
namespace Go.Proofs.YtgagophijmiceaaDoor
set_option linter.unusedSimpArgs false
set_option linter.unusedVariables false
open Go.ChangeShapes Go.WideShapes Go.ChangeAt Go.RowKit Go.Deep Go.Joins
namespace Mem
section
variable {H : Type} {enc : TypeId × Value → H} {P : Program} {w : World} {base : Nat} {spare : Nat → Bool} {held : Bool}
/-- A slice of integers in a field. -/
theorem open_ints_cell {t e : TypeId} {k : IntKind} {v : Value} {x : DataW H × List MemPlace} {fuel : Nat} (ht : P.underlying t = some (.slice e)) (he : P.underlying e = some (.int k)) (hc : P.cellsOf e = 1)
    (hf : DataW.trod enc P w base spare held fuel t [v] = some x) :
    ∃ a n c, ∃ zs : List Int, v = .slice a n c ∧ zs.length = n ∧ n ≤ c ∧ c ≤ maxLen ∧ Cells w a n (fun i => .int k (zs.getD i 0)) ∧ (∀ z ∈ zs, (Lit.int k z).wf = true) ∧ (a = none → n = 0 ∧ c = 0) := by
  obtain ⟨d, p⟩ := x
  rcases open_ints ht he hc hf with ⟨hcs, _⟩ | ⟨x, l, c, zs, hcs, _, hl, hm, hz, _, hcell, hwz⟩
  · simp at hcs
    subst hcs
    exact ⟨none, 0, 0, [], rfl, rfl, Nat.le_refl _, Nat.zero_le _, fun i hi => absurd hi (Nat.not_lt_zero _), fun _ h => by simp at h, fun _ => ⟨rfl, rfl⟩⟩
  · simp at hcs
    subst hcs
    have hlen : l ≤ zs.length := by rw [hz]; split <;> omega
    refine ⟨some x, l, c, zs.take l, rfl, by simp; omega, hl, hm, ?_, fun z hz' => hwz z (List.mem_of_mem_take hz'), fun h => by cases h⟩
    refine cells_of fun i hi => ?_
    rw [hcell i (by omega), List.getD_eq_getElem?_getD, List.getD_eq_getElem?_getD, List.getElem?_take_of_lt hi]
/-- A struct of two ints and a slice of ints. -/
theorem open_pattern {t e : TypeId} {f0 f1 f2 : Field} {v : Value} {d : DataW H} {p : List MemPlace} {r : Reach} {b0 : Nat} (hs : P.underlying t = some (.struct #[f0, f1, f2])) (hone : oneCellFields P #[f0, f1, f2] = true) (hC : P.cellsOf t = 3)
    (h0 : P.underlying f0.type = some (.int .i64)) (h1 : P.underlying f1.type = some (.int .i64)) (h2 : P.underlying f2.type = some (.slice e)) (he : P.underlying e = some (.int .i64)) (hc : P.cellsOf e = 1)
    (hv : Value.okWide P w r b0 t v) (h : DataW.Trod enc P w base spare held t v d p) :
    ∃ W H' : Int, ∃ a n c, ∃ zs : List Int, v = .agg #[.int .i64 W, .int .i64 H', .slice a n c] ∧ zs.length = n ∧ n ≤ c ∧ c ≤ maxLen ∧ Cells w a n (fun i => .int .i64 (zs.getD i 0)) ∧ (Lit.int .i64 W).wf = true ∧ (Lit.int .i64 H').wf = true ∧ (a = none → n = 0 ∧ c = 0) := by
  obtain ⟨c0, c1, c2, y0, y1, y2, m, rfl, _, _, hy0, hy1, hy2⟩ := open_agg3 hs hone hC hv h
  obtain ⟨x, e0, _, wx⟩ := DataW.trod_int h0 hy0
  obtain ⟨y, e1, _, wy⟩ := DataW.trod_int h1 hy1
  obtain ⟨a, n, c, zs, rfl, h3, h4, h5, h6, _, h7⟩ := open_ints_cell h2 he hc hy2
  simp at e0 e1
  subst e0 e1
  exact ⟨x, y, a, n, c, zs, rfl, h3, h4, h5, h6, wx, wy, h7⟩
end
end Mem
end Go.Proofs.YtgagophijmiceaaDoor

/- What the row's listed variables say: the marks, the table of powers of ten. -/
namespace Go.Proofs.YtgagophijmiceaaDoor
set_option linter.unusedSimpArgs false
set_option linter.unusedVariables false
open Go.ChangeShapes Go.WideShapes Go.ChangeAt Go.RowKit Go.Deep
namespace Pw
open Mem
theorem gMarks : Tryd.prog.globalNamed "eden/pattern.marks" = some 0 := by kernel_rfl
theorem gMarksType : (Tryd.prog.globals[0]?).map (·.type) = some 80 := by kernel_rfl
theorem runeCells : Tryd.prog.cellsOf 21 = 1 := by kernel_rfl
theorem lits_inj {H : Type} {k : IntKind} : ∀ {l m : List Int}, (Go.ChangeShapes.lits k l : List (DataW H)) = Go.ChangeShapes.lits k m → l = m
  | [], [], _ => rfl
  | [], _ :: _, h => by simp [Go.ChangeShapes.lits] at h
  | _ :: _, [], h => by simp [Go.ChangeShapes.lits] at h
  | a :: l, b :: m, h => by
    simp only [Go.ChangeShapes.lits, List.map_cons, List.cons.injEq, DataW.lit.injEq, Lit.int.injEq, true_and] at h
    rw [h.1, lits_inj (H := H) (k := k) h.2]
set_option maxRecDepth 100000 in
theorem marks_of_laid {W : World} {r : List (String × DataW Unit)} (h : laidMet Tryd.prog (("eden/pattern.marks", .slice [.lit (.int .i32 183), .lit (.int .i32 9679)] []) :: r) W) : Marks W := by
  obtain ⟨ps, ⟨g0, t0, cs0, f0, p0, q0, hg0, ht0, hv0, hd0, _, e0⟩, hnd, hrows⟩ := h
  obtain rfl := Option.some.inj (gMarks.symm.trans hg0)
  obtain rfl := Option.some.inj (gMarksType.symm.trans ht0)
  obtain ⟨l0⟩ := cs0
  rcases open_ints Tryd.underlying80 Tryd.underlying21 runeCells hd0 with ⟨_, hx⟩ | ⟨x, l, c, zs, hcs, _, hl, hm, hz, hx, hcell, _⟩
  · cases hx
  · have h1 := (Prod.mk.inj hx).1
    simp only [DataW.slice.injEq] at h1
    have h2 : zs.take l = [183, 9679] := (lits_inj (H := Unit) (k := .i32) (l := [183, 9679]) h1.1).symm
    have h3 : zs.drop l = [] := (lits_inj (H := Unit) (k := .i32) (l := []) h1.2).symm
    have hzs : zs = [183, 9679] := by
      have := List.take_append_drop l zs
      rw [h2, h3] at this
      exact this.symm
    subst hzs
    have hl2 : l = 2 := by
      have e1 := congrArg List.length h2
      simp at e1 hz
      omega
    subst hl2
    have c0 := hcell 0 (by decide)
    have c1 := hcell 1 (by decide)
    have hs := spotless c0
    generalize x.block = b at *
    generalize x.off = o at *
    subst hs
    rw [Addr.add_mid] at c0 c1
    have hcs' : l0 = [.slice (some ⟨b, o, none⟩) 2 c] := hcs
    have hg : W.cell? ⟨0, 0, none⟩ = some (.slice (some ⟨b, o, none⟩) 2 c) := by
      rw [hcs'] at hv0
      simpa using World.var?_cell hg0 hv0 0
    exact ⟨b, o, c, lt_of_cell hg, lt_of_cell c0, hl, hg, c0, c1⟩
set_option maxRecDepth 100000 in
theorem tab_of_laid {W : World} {r : List (String × DataW Unit)} {d : DataW Unit} (hd : d = Lib.tabData .u64 Lib.pow10Tab) (h : laidMet Tryd.prog (("internal/strconv.uint64pow10", d) :: r) W) : Tab W := by
  subst hd
  exact Lib.tabIs_of_head (g := 4) (t := 158) (e := 151) (n := 20) (by kernel_rfl) (by kernel_rfl) Tryd.underlying158 Tryd.underlying151 (by kernel_rfl) (by kernel_rfl) h
end Pw
end Go.Proofs.YtgagophijmiceaaDoor

/- What the row's listed variables say: unicode/utf8's tables. -/
namespace Go.Proofs.YtgagophijmiceaaDoor
set_option linter.unusedSimpArgs false
set_option linter.unusedVariables false
open Go.ChangeShapes Go.WideShapes Go.ChangeAt Go.RowKit Go.Deep
namespace Pr
theorem u8Extra : Go.Proofs.U8Extra Tryd.prog Tryd.lays260_ren where
  n3 := by kernel_rfl
  n4 := by kernel_rfl
  y3 := by kernel_rfl
  y4 := by kernel_rfl
  c5 := by kernel_rfl
  c119 := by kernel_rfl
  c138 := by kernel_rfl
theorem utabs_of_laid {W : World} {l : List (String × DataW Unit)} (h : laidMet Tryd.prog l W) {d1 d2 : DataW Unit} (e1 : d1 = Lib.firstData) (e2 : d2 = Lib.acceptData) (m1 : ("unicode/utf8.first", d1) ∈ l) (m2 : ("unicode/utf8.acceptRanges", d2) ∈ l) : UTabs W := by
  subst e1 e2
  exact Go.Proofs.utf8Tabs_of_reads Tryd.lays260 u8Extra (Lib.laidMet.reads h m1) (Lib.laidMet.reads h m2)
end Pr
end Go.Proofs.YtgagophijmiceaaDoor
