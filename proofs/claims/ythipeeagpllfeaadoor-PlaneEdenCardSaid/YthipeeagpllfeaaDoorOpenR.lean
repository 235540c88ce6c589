/- A RULE THAT CAME IN: five ints, a slice of numbers, a string; over any program. -/
import Derived.Test.YthipeeagpllfeaaDoorMem
import Derived.Lib.SmallJoins
namespace Go.Proofs.YthipeeagpllfeaaDoor
set_option linter.unusedSimpArgs false
set_option linter.unusedVariables false
open Go.ChangeShapes Go.WideShapes Go.ChangeAt Go.RowKit Go.Deep Go.Joins
namespace Mem
section
variable {H : Type} {enc : TypeId × Value → H} {P : Program} {w : World} {base : Nat} {spare : Nat → Bool} {held : Bool}
/-- A slice of integers in a field. -/
theorem open_ints_field {t e : TypeId} {k : IntKind} {v : Value} {x : DataW H × List MemPlace} {fuel : Nat} (ht : P.underlying t = some (.slice e)) (he : P.underlying e = some (.int k)) (hc : P.cellsOf e = 1)
    (hf : DataW.trod enc P w base spare held fuel t [v] = some x) :
    ∃ a n c, ∃ zs : List Int, v = .slice a n c ∧ zs.length = n ∧ n ≤ c ∧ c ≤ maxLen ∧ Cells w a n (fun i => .int k (zs.getD i 0)) := by
  obtain ⟨d, p⟩ := x
  rcases open_ints ht he hc hf with ⟨hcs, _⟩ | ⟨x, l, c, zs, hcs, _, hl, hm, hz, _, hcell, hwz⟩
  · simp at hcs
    subst hcs
    exact ⟨none, 0, 0, [], rfl, rfl, Nat.le_refl _, Nat.zero_le _, fun i hi => absurd hi (Nat.not_lt_zero _)⟩
  · simp at hcs
    subst hcs
    have hlen : l ≤ zs.length := by rw [hz]; split <;> omega
    refine ⟨some x, l, c, zs.take l, rfl, by simp; omega, hl, hm, ?_⟩
    refine cells_of fun i hi => ?_
    rw [hcell i (by omega), List.getD_eq_getElem?_getD, List.getD_eq_getElem?_getD, List.getElem?_take_of_lt hi]
theorem array7 {α : Type} {cs : Array α} (h : cs.size = 7) : ∃ c0 c1 c2 c3 c4 c5 c6, cs = #[c0, c1, c2, c3, c4, c5, c6] := by
  obtain ⟨l⟩ := cs
  match l, h with
  | [c0, c1, c2, c3, c4, c5, c6], _ => exact ⟨c0, c1, c2, c3, c4, c5, c6, rfl⟩
theorem open_rule {t e : TypeId} {f0 f1 f2 f3 f4 f5 f6 : Field} {v : Value} {d : DataW H} {p : List MemPlace} {r : Reach} {b0 : Nat} (hs : P.underlying t = some (.struct #[f0, f1, f2, f3, f4, f5, f6])) (hone : oneCellFields P #[f0, f1, f2, f3, f4, f5, f6] = true) (hC : P.cellsOf t = 7)
    (h0 : P.underlying f0.type = some (.int .i64)) (h1 : P.underlying f1.type = some (.int .i64)) (h2 : P.underlying f2.type = some (.int .i64)) (h3 : P.underlying f3.type = some (.int .i64)) (h4 : P.underlying f4.type = some (.int .i64)) (h5 : P.underlying f5.type = some (.slice e)) (h6 : P.underlying f6.type = some .string) (he : P.underlying e = some (.int .i64)) (hc : P.cellsOf e = 1)
    (hv : Value.okWide P w r b0 t v) (h : DataW.Trod enc P w base spare held t v d p) :
    ∃ K B S st ra : Int, ∃ a n c, ∃ zs : List Int, ∃ tu : ByteArray, v = .agg #[.int .i64 K, .int .i64 B, .int .i64 S, .int .i64 st, .int .i64 ra, .slice a n c, .string tu] ∧ zs.length = n ∧ n ≤ c ∧ c ≤ maxLen ∧ Cells w a n (fun i => .int .i64 (zs.getD i 0)) ∧ tu.size ≤ 9223372036854775807 := by
  obtain ⟨cs, rfl, hsz⟩ := okWide_struct hs hv
  obtain ⟨c0, c1, c2, c3, c4, c5, c6, rfl⟩ := array7 (hsz.trans hC)
  obtain ⟨fuel, hf⟩ := h
  obtain ⟨xs, n, _, _, hl, hlen, hf⟩ := DataW.trod_struct hs hf
  match xs, hlen with
  | [y0, y1, y2, y3, y4, y5, y6], _ =>
    have g0 := hf 0 f0 rfl
    have g1 := hf 1 f1 rfl
    have g2 := hf 2 f2 rfl
    have g3 := hf 3 f3 rfl
    have g4 := hf 4 f4 rfl
    have g5 := hf 5 f5 rfl
    have g6 := hf 6 f6 rfl
    obtain ⟨o0, k0⟩ := hone_of hone 0 f0 rfl
    obtain ⟨o1, k1⟩ := hone_of hone 1 f1 rfl
    obtain ⟨o2, k2⟩ := hone_of hone 2 f2 rfl
    obtain ⟨o3, k3⟩ := hone_of hone 3 f3 rfl
    obtain ⟨o4, k4⟩ := hone_of hone 4 f4 rfl
    obtain ⟨o5, k5⟩ := hone_of hone 5 f5 rfl
    obtain ⟨o6, k6⟩ := hone_of hone 6 f6 rfl
    simp [Value.cells, o0, k0] at g0
    simp [Value.cells, o1, k1] at g1
    simp [Value.cells, o2, k2] at g2
    simp [Value.cells, o3, k3] at g3
    simp [Value.cells, o4, k4] at g4
    simp [Value.cells, o5, k5] at g5
    simp [Value.cells, o6, k6] at g6
    obtain ⟨z0, e0, _, _⟩ := DataW.trod_int h0 g0
    obtain ⟨z1, e1, _, _⟩ := DataW.trod_int h1 g1
    obtain ⟨z2, e2, _, _⟩ := DataW.trod_int h2 g2
    obtain ⟨z3, e3, _, _⟩ := DataW.trod_int h3 g3
    obtain ⟨z4, e4, _, _⟩ := DataW.trod_int h4 g4
    obtain ⟨a, m, c, zs, rfl, b1, b2, b3, b4⟩ := open_ints_field h5 he hc g5
    obtain ⟨tu, e6, _, w6⟩ := DataW.trod_string h6 g6
    simp at e0 e1 e2 e3 e4 e6
    subst e0 e1 e2 e3 e4 e6
    exact ⟨z0, z1, z2, z3, z4, a, m, c, zs, tu, rfl, b1, b2, b3, b4, by unfold maxLen at w6; omega⟩
end
end Mem
end Go.Proofs.YthipeeagpllfeaaDoor
