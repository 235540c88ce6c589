/- WALK: wang.check at one and two numbers. -/
import Derived.Test.YthggpjpmjhaidaaDoorWgF
import Derived.Test.YthggpjpmjhaidaaDoorWgFt
import Derived.WalkSpells
import Derived.Lib.LazyBuf
namespace Go.Proofs.YthggpjpmjhaidaaDoor
set_option linter.unusedSimpArgs false
set_option linter.unusedVariables false
open Go.RowKit Go.Lib
namespace Wg
open Tld Mem

theorem check_two (a : Option Addr) (n c : Nat) (ts : List Tl) (W H : Int) : ∀ w2 : World, Tiles w2 a n ts → ∀ (b sc2 : Nat), Row w2 b 3 [.int .i64 W, .int .i64 H] → Calls Tryd.prog 35 #[.slice a n c, .slice (some ⟨b, 0, none⟩) 2 sc2] w2 fun e w' => e = .returned (errV (zfault ts [W, H])) ∧ Below w2.heap.size w2 w' := fun w2 h2 b sc2 hR =>
  check_any a n c ts (some ⟨b, 0, none⟩) 2 sc2 [W, H] w2 h2 rfl (by omega) (fun i hi => ⟨b, 0, rfl, hR.lt, by
    rw [Nat.zero_add, hR.cell]
    match i, hi with
    | 0, _ => rfl
    | 1, _ => rfl⟩)
theorem check_one (a : Option Addr) (n c : Nat) (ts : List Tl) (W : Int) : ∀ w2 : World, Tiles w2 a n ts → ∀ (b sc2 : Nat), Row w2 b 3 [.int .i64 W] → Calls Tryd.prog 35 #[.slice a n c, .slice (some ⟨b, 0, none⟩) 1 sc2] w2 fun e w' => e = .returned (errV (zfault ts [W])) ∧ Below w2.heap.size w2 w' := fun w2 h2 b sc2 hR =>
  check_any a n c ts (some ⟨b, 0, none⟩) 1 sc2 [W] w2 h2 rfl (by omega) (fun i hi => ⟨b, 0, rfl, hR.lt, by
    rw [Nat.zero_add, hR.cell]
    match i, hi with
    | 0, _ => rfl⟩)

theorem own_base {w : World} {B B' : Nat} {e : TypeId} {v : Value} {n : Nat} {xs : List Value} (h : w.ownsRow B e 1 v n xs) (hB : B' ≤ B) : w.ownsRow B' e 1 v n xs := by
  refine ⟨h.1, ?_⟩
  rcases h.2 with h | ⟨g, cap, cur, h1, h2, h3⟩
  · exact .inl h
  · exact .inr ⟨g, cap, cur, h1, Nat.le_trans hB h2, h3⟩

end Wg
end Go.Proofs.YthggpjpmjhaidaaDoor
