/- A SLICE OF STRUCTS OF INTS THAT CAME IN; over any program. -/
import Derived.Test.YtfhhnajnanlmgaaGreatDoorMem
import Derived.ChangeArms
namespace Go.Proofs.YtfhhnajnanlmgaaGreatDoor
set_option linter.unusedSimpArgs false
set_option linter.unusedVariables false
open Go.ChangeShapes Go.WideShapes Go.ChangeAt Go.RowKit Go.Deep
namespace Mem
section
variable {H : Type} {enc : TypeId × Value → H} {P : Program} {w : World} {base : Nat} {spare : Nat → Bool} {held : Bool}

theorem choose_ij {α : Type} [Inhabited α] {m s : Nat} {p : Nat → Nat → α → Prop} (h : ∀ i, i < m → ∀ j, j < s → ∃ z, p i j z) : ∃ f : Nat → Nat → α, ∀ i, i < m → ∀ j, j < s → p i j (f i j) := by
  classical
  refine ⟨fun i j => if h2 : ∃ z, p i j z then Classical.choose h2 else default, fun i hi j hj => ?_⟩
  have h2 := h i hi j hj
  simp only [dif_pos h2]
  exact Classical.choose_spec h2
/-- The cells of one struct of ints. -/
theorem struct_ints {e : TypeId} {fs : Array Field} {n : Nat} {cs : List Value} {x : DataW H × List MemPlace} (he : P.underlying e = some (.struct fs)) (hf : ∀ (j : Nat) (f : Field), fs[j]? = some f → f.offset = j ∧ P.cellsOf f.type = 1 ∧ P.underlying f.type = some (.int .i64))
    (h : DataW.trod enc P w base spare held n e cs = some x) {j : Nat} (hj : j < fs.size) (hl : cs.length = fs.size) : ∃ z, cs[j]? = some (.int .i64 z) ∧ (Lit.int .i64 z).wf = true := by
  obtain ⟨xs, k, hk, hxy, _, hxl, hg⟩ := DataW.trod_struct he h
  have h1 := hg j fs[j] (Array.getElem?_eq_getElem hj)
  obtain ⟨o, c, t⟩ := hf j fs[j] (Array.getElem?_eq_getElem hj)
  rw [o, c] at h1
  have hj' : j < xs.length := by omega
  rw [List.getElem?_eq_getElem hj'] at h1
  obtain ⟨z, hz, _, hw⟩ := DataW.trod_int t h1
  refine ⟨z, ?_, hw⟩
  have : ((cs.drop j).take 1)[0]? = some (.int .i64 z) := by rw [hz]; rfl
  rw [List.getElem?_take_of_lt (by omega), List.getElem?_drop, Nat.add_zero] at this
  exact this
/-- A slice of structs of ints that came in. -/
theorem open_int_structs {t e : TypeId} {fs : Array Field} {s : Nat} {v : Value} {d : DataW H} {p : List MemPlace} {r : Reach} {b0 : Nat} (ht : P.underlying t = some (.slice e)) (he : P.underlying e = some (.struct fs)) (hs : fs.size = s) (hc : P.cellsOf e = s)
    (hf : ∀ (j : Nat) (f : Field), fs[j]? = some f → f.offset = j ∧ P.cellsOf f.type = 1 ∧ P.underlying f.type = some (.int .i64)) (hs0 : 0 < s)
    (hv : Value.okWide P w r b0 t v) (h : DataW.Trod enc P w base spare held t v d p) :
    ∃ a n c, ∃ f : Nat → Nat → Int, v = .slice a n c ∧ n ≤ c ∧ c ≤ maxLen ∧ Rows w a n s (fun i j => .int .i64 (f i j)) ∧ (∀ i, i < n → ∀ j, j < s → (Lit.int .i64 (f i j)).wf = true) ∧ (a = none → n = 0 ∧ c = 0) := by
  obtain ⟨a0, len, cap, rfl⟩ := okWide_slice ht hv
  obtain ⟨fuel, hfu⟩ := h
  rcases open_slice ht hfu with ⟨hcs, _⟩ | ⟨x, l, c, m, n, D, Pl, hcs, _, hl, hm, hmm, _, hx⟩
  · simp [Value.cells] at hcs
    obtain ⟨rfl, rfl, rfl⟩ := hcs
    exact ⟨none, 0, 0, fun _ _ => 0, rfl, Nat.le_refl _, Nat.zero_le _, fun i hi => absurd hi (Nat.not_lt_zero _), fun i hi => absurd hi (Nat.not_lt_zero _), fun _ => ⟨rfl, rfl⟩⟩
  · simp [Value.cells] at hcs
    obtain ⟨e1, e2, e3⟩ := hcs
    subst e1 e2 e3
    have hlm : len ≤ m := by rw [hmm]; split <;> omega
    have each : ∀ i, i < len → ∀ j, j < s → ∃ z : Int, w.cell? ((x.add (i * s)).add j) = some (.int .i64 z) ∧ (Lit.int .i64 z).wf = true := by
      intro i hi j hj
      obtain ⟨cs', h1, h2⟩ := hx i (by omega)
      rw [hc] at h1
      obtain ⟨_, hlen, hcell⟩ := World.cells?_some h1
      obtain ⟨z, hz, hw⟩ := struct_ints he hf h2 (j := j) (by omega) (by omega)
      exact ⟨z, (hcell j hj).trans hz, hw⟩
    obtain ⟨f, hF⟩ := choose_ij each
    refine ⟨some x, len, cap, f, rfl, hl, hm, fun i hi => ?_, fun i hi j hj => (hF i hi j hj).2, fun h => by cases h⟩
    have h0 := (hF 0 (by omega) 0 hs0).1
    have hsp : x.spot = none := by
      have := World.cell?_spot h0
      simpa [Addr.add] using this
    obtain ⟨b, off, spot⟩ := x
    simp only at hsp
    subst hsp
    refine ⟨b, off, rfl, ?_, fun j hj => ?_⟩
    · rw [add_plain, add_plain] at h0
      exact lt_of_cell h0
    · have := (hF i hi j hj).1
      rwa [add_plain, add_plain] at this
end
end Mem
end Go.Proofs.YtfhhnajnanlmgaaGreatDoor
