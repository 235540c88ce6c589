/- ORDERS, for planes: what is known all through a region, and what is known till one operation comes up. -/
import Derived.Test.YtgagophijmiceaaDoorPnV
import Derived.Test.YtgagophijmiceaaDoorRtO
namespace Go.Proofs.YtgagophijmiceaaDoor
set_option linter.unusedSimpArgs false
set_option linter.unusedVariables false
open Go.RowKit
namespace Pn
open Tld Mem Bl

def Sc2 (A B : World → Prop) (k : Nat) : Option Nat → World → Prop
  | none, w => A w
  | some j, w => j = k → B w
theorem Sc2.of {A B : World → Prop} {k : Nat} {w : World} (hA : A w) (hB : B w) : ∀ o, Sc2 A B k o w
  | none => hA
  | some _ => fun _ => hB
theorem Sc2.other {A B : World → Prop} {k i : Nat} (h : i ≠ k) (w : World) : Sc2 A B k (some i) w := fun e => absurd e h
theorem Sc2.late {A B : World → Prop} {k : Nat} {listed : Array Bool} {w : World} (hA : A w) (hk : listed.getD k true = true) : ∀ o, Rt.live o listed → Sc2 A B k o w
  | none, _ => hA
  | some j, hl => fun e => by
    subst e
    have : listed.getD j true = false := hl
    rw [hk] at this; cases this
end Pn
end Go.Proofs.YtgagophijmiceaaDoor
