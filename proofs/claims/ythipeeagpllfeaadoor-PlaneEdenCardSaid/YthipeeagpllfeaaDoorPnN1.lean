/- WALK: (plane.grown).next, its beginning: what it makes. -/
import Derived.Test.YthipeeagpllfeaaDoorPnR
import Derived.Laws.StructEq
namespace Go.Proofs.YthipeeagpllfeaaDoor
set_option linter.unusedSimpArgs false
set_option linter.unusedVariables false
open Go.RowKit
namespace Pn
open Tld Mem Bl

theorem row_setAny {b : Nat} {T : TypeId} : ∀ (vs : List Value) (i : Nat) (w : World) (cs : List Value), Row w b T cs → i + vs.length ≤ cs.length → Row (w.setCells b i vs) b T (cs.take i ++ (vs ++ cs.drop (i + vs.length))) ∧ Only b w (w.setCells b i vs)
  | [], i, w, cs, h, hl => by
    refine ⟨?_, Only.refl _ _⟩
    simp only [List.nil_append, List.length_nil, Nat.add_zero, List.take_append_drop]
    exact h
  | v :: r, i, w, cs, h, hl => by
    simp only [List.length_cons] at hl
    have h1 := row_setAny r (i + 1) (w.setCell ⟨b, i, none⟩ v) (cs.set i v) (h.set i v) (by simp; omega)
    refine ⟨?_, (only_setCell w b i v).trans h1.2⟩
    have e : (cs.set i v).take (i + 1) ++ (r ++ (cs.set i v).drop (i + 1 + r.length)) = cs.take i ++ (v :: r ++ cs.drop (i + (v :: r).length)) := by
      rw [List.take_succ_eq_append_getElem (by simp; omega), List.take_set_of_le (Nat.le_refl i), List.drop_set_of_lt (by omega)]
      simp [Nat.add_comm, Nat.add_left_comm]
    rw [← e]
    exact h1.1
theorem row_pre {w : World} {b : Nat} {T : TypeId} {vs rest : List Value} (h : Row w b T (vs ++ rest)) : w.rangeAt b 0 vs := fun j v hv => by
  rw [Nat.zero_add, h.cell, List.getElem?_append_left (List.getElem?_eq_some_iff.1 hv).1, hv]
theorem wp_store_part {P : Program} {o : Oper} {a : Act} {w : World} {K : Act → World → Prop} {Q : Exit → Act → World → Prop} (ty : TypeId) (x y : Operand) (ho : o.op = .store ty x y)
    (g i : Nat) (hx : a.eval x = .pointer (some ⟨g, i, none⟩)) (t : TypeId) (cs vs : List Value) (hy : a.eval y = .agg vs.toArray) (hg : Row w g t cs) (hl : i + vs.length ≤ cs.length)
    (hi : (P.info? ty).map (·.size) = some vs.length) (h1 : ∀ v ∈ vs, v.oneCell' = true)
    (h : ∀ w', Row w' g t (cs.take i ++ (vs ++ cs.drop (i + vs.length))) → Only g w w' → K (a.put o.dst undef) w') : Oper.wp P o a w K Q := by
  have hs := row_setAny (T := t) vs i w cs hg hl
  refine wp_store_mid ty x y ho g i vs.toArray hx hy (fun j hj => ?_) (by simpa using hi) (all_oneCell_toArray h1) ?_
  · refine ⟨?_, hg.frozen _⟩
    rw [hg.cell, List.getElem?_eq_getElem (by simp at hj; omega)]
    rfl
  · have := h _ hs.1 hs.2
    simpa using this
theorem wpList_store_part {P : Program} {ops : Array Oper} {rest : List Oper} {o : Oper} {a : Act} {w : World} {Q : Exit → Act → World → Prop} (hgd : o.guard = none) (ty : TypeId) (x y : Operand) (ho : o.op = .store ty x y)
    (g i : Nat) (hx : a.eval x = .pointer (some ⟨g, i, none⟩)) (t : TypeId) (cs vs : List Value) (hy : a.eval y = .agg vs.toArray) (hg : Row w g t cs) (hl : i + vs.length ≤ cs.length)
    (hi : (P.info? ty).map (·.size) = some vs.length) (h1 : ∀ v ∈ vs, v.oneCell' = true)
    (h : ∀ w', Row w' g t (cs.take i ++ (vs ++ cs.drop (i + vs.length))) → Only g w w' → wpList P ops Q rest (a.put o.dst undef) w') : wpList P ops Q (o :: rest) a w :=
  wpList_plain hgd fun _ hK => wp_store_part ty x y ho g i hx t cs vs hy hg hl hi h1 fun w' h2 h3 => hK _ _ (h w' h2 h3)
theorem eqArr (a b c d : Int) (w : World) : (Op.equalIn 10000 90 (.agg #[.int .i64 a, .int .i64 b]) (.agg #[.int .i64 c, .int .i64 d])).run Tryd.prog w = .ok (a == c && b == d) w := by
  have u3 := Tryd.underlying3
  have a3 := Tryd.isAgg3
  have z3 := Tryd.sizeOf3
  rw [show (10000 : Nat) = 9999 + 1 from rfl, Op.equalIn]
  simp only [Sem.run_bind, run_underlying Tryd.underlying90, Result.andThen_ok]
  simp only [Std.Legacy.Range.forIn_eq_forIn_range', Std.Legacy.Range.size, Nat.sub_zero, Nat.add_sub_cancel, Nat.div_one, List.range'_succ, List.range'_zero, List.forIn_cons, List.forIn_nil]
  go_simp
  by_cases h1 : a = c <;> by_cases h2 : b = d <;> simp [h1, h2]
theorem BB.minus {W H k : Nat} {f : Nat → Nat → Nat} {l t r b : Int} (h : BB W H f k l t r b) (hr : r < 0) : r = -1 ∧ b = -1 := by
  rcases h with ⟨_, _, h3, h4, _⟩ | ⟨h1, h2, _⟩
  · exact ⟨h3, h4⟩
  · omega
/-- The grid that next makes. -/
def nxg (B S W H : Nat) (f : Nat → Nat → Nat) : Nat → Nat → Nat := tor B S (W + 2 + 2) (H + 2 + 2) (pad (W + 2) (H + 2) (pad W H f))
theorem pad_lt {W H : Nat} {f : Nat → Nat → Nat} (hf : ∀ x y, f x y < 2) (x y : Nat) : pad W H f x y < 2 := by
  unfold pad
  split
  · exact hf _ _
  · omega
end Pn
end Go.Proofs.YthipeeagpllfeaaDoor
