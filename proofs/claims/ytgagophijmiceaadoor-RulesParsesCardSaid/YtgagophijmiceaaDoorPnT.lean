/- WALK: plane.torus. -/
import Derived.Test.YtgagophijmiceaaDoorPnQ
import Derived.Deep.RegionWith
namespace Go.Proofs.YtgagophijmiceaaDoor
set_option linter.unusedSimpArgs false
set_option linter.unusedVariables false
open Go.RowKit
namespace Pn
open Tld Mem Bl

/-- The first k of the nine cells about a place on rings, together. -/
def sumT (W H : Nat) (f : Nat → Nat → Nat) (x y : Nat) : Nat → Nat
  | 0 => 0
  | k + 1 => sumT W H f x y k + f ((x + k % 3 + W - 1) % W) ((y + k / 3 + H - 1) % H)
theorem sumT_nine {W H x y : Nat} {f : Nat → Nat → Nat} : sumT W H f x y 9 = nineT W H f x y := by
  unfold nineT
  show 0 + f ((x + 0 + W - 1) % W) ((y + 0 + H - 1) % H) + f ((x + 1 + W - 1) % W) ((y + 0 + H - 1) % H) + f ((x + 2 + W - 1) % W) ((y + 0 + H - 1) % H) +
    f ((x + 0 + W - 1) % W) ((y + 1 + H - 1) % H) + f ((x + 1 + W - 1) % W) ((y + 1 + H - 1) % H) + f ((x + 2 + W - 1) % W) ((y + 1 + H - 1) % H) +
    f ((x + 0 + W - 1) % W) ((y + 2 + H - 1) % H) + f ((x + 1 + W - 1) % W) ((y + 2 + H - 1) % H) + f ((x + 2 + W - 1) % W) ((y + 2 + H - 1) % H) = _
  omega
theorem sumT_le {W H x y : Nat} {f : Nat → Nat → Nat} (hf : ∀ x y, f x y < 2) : ∀ k, sumT W H f x y k ≤ k
  | 0 => Nat.le_refl _
  | k + 1 => by
    have h1 := sumT_le (W := W) (H := H) (x := x) (y := y) hf k
    have h2 := hf ((x + k % 3 + W - 1) % W) ((y + k / 3 + H - 1) % H)
    show sumT W H f x y k + _ ≤ k + 1
    omega
theorem nineT_self {W H x y : Nat} {f : Nat → Nat → Nat} (hx : x < W) (hy : y < H) : f x y ≤ nineT W H f x y := by
  have e1 : (x + 1 + W - 1) % W = x := by rw [show x + 1 + W - 1 = x + W by omega, Nat.add_mod_right, Nat.mod_eq_of_lt hx]
  have e2 : (y + 1 + H - 1) % H = y := by rw [show y + 1 + H - 1 = y + H by omega, Nat.add_mod_right, Nat.mod_eq_of_lt hy]
  unfold nineT
  rw [e1, e2]
  omega
theorem three_new (w : World) (T U V : TypeId) (c1 c2 c3 : List Value) : Row (((w.alloc (.cells c1.toArray T)).alloc (.cells c2.toArray U)).alloc (.cells c3.toArray V)) w.heap.size T c1 ∧ Row (((w.alloc (.cells c1.toArray T)).alloc (.cells c2.toArray U)).alloc (.cells c3.toArray V)) (w.heap.size + 1) U c2 ∧
    Row (((w.alloc (.cells c1.toArray T)).alloc (.cells c2.toArray U)).alloc (.cells c3.toArray V)) (w.heap.size + 2) V c3 ∧ Below w.heap.size w (((w.alloc (.cells c1.toArray T)).alloc (.cells c2.toArray U)).alloc (.cells c3.toArray V)) := by
  obtain ⟨h1, h2, h3⟩ := two_new w T U c1 c2
  have hs : ((w.alloc (.cells c1.toArray T)).alloc (.cells c2.toArray U)).heap.size = w.heap.size + 2 := by simp [World.size_alloc]
  have h4 := row_alloc ((w.alloc (.cells c1.toArray T)).alloc (.cells c2.toArray U)) V c3
  rw [hs] at h4
  have hb : Below (w.heap.size + 2) ((w.alloc (.cells c1.toArray T)).alloc (.cells c2.toArray U)) (((w.alloc (.cells c1.toArray T)).alloc (.cells c2.toArray U)).alloc (.cells c3.toArray V)) := (Below.refl _ _).alloc (by rw [hs]; exact Nat.le_refl _) _
  exact ⟨h1.keep hb (by omega), h2.keep hb (by omega), h4, h3.trans (hb.mono (by omega))⟩
/-- The numbers of a neighbour's step. -/
theorem tor_nums {x y d e W H : Nat} (hx : x < W) (hy : y < H) (hd : d < 3) (he : e < 3) (hW : W ≤ 200) (hH : H ≤ 200) :
    ∃ y1 y2 y3 y4 y5 x1 x2 x3 x4 i : Nat, i = ((y + d + H - 1) % H) * W + (x + e + W - 1) % W ∧ i < W * H ∧ x4 = (x + e + W - 1) % W ∧ y4 = (y + d + H - 1) % H ∧
      wrap64 ((y : Int) + (d : Int)) = (y1 : Int) ∧ wrap64 ((y1 : Int) + (H : Int)) = (y2 : Int) ∧ wrap64 ((y2 : Int) - 1) = (y3 : Int) ∧ (y3 : Int).tmod (H : Int) = (y4 : Int) ∧ wrap64 ((y4 : Int) * (W : Int)) = (y5 : Int) ∧
      wrap64 ((x : Int) + (e : Int)) = (x1 : Int) ∧ wrap64 ((x1 : Int) + (W : Int)) = (x2 : Int) ∧ wrap64 ((x2 : Int) - 1) = (x3 : Int) ∧ (x3 : Int).tmod (W : Int) = (x4 : Int) ∧ wrap64 ((y5 : Int) + (x4 : Int)) = (i : Int) := by
  have h1 : (x + e + W - 1) % W < W := Nat.mod_lt _ (by omega)
  have h2 : (y + d + H - 1) % H < H := Nat.mod_lt _ (by omega)
  have h3 := at_lt h1 h2
  have h4 : W * H ≤ 200 * 200 := Nat.mul_le_mul hW hH
  refine ⟨y + d, y + d + H, y + d + H - 1, (y + d + H - 1) % H, ((y + d + H - 1) % H) * W, x + e, x + e + W, x + e + W - 1, (x + e + W - 1) % W, _, rfl, h3, rfl, rfl, ?_, ?_, ?_, ?_, ?_, ?_, ?_, ?_, ?_, ?_⟩
  · exact wr_nat (by omega) (by omega)
  · exact wr_nat (by omega) (by omega)
  · exact wr_nat (by omega) (by omega)
  · exact Int.ofNat_tmod _ _
  · generalize (y + d + H - 1) % H = q at *
    generalize (x + e + W - 1) % W = p at *
    exact wr_nat (by push_cast; rfl) (by omega)
  · exact wr_nat (by omega) (by omega)
  · exact wr_nat (by omega) (by omega)
  · exact wr_nat (by omega) (by omega)
  · exact Int.ofNat_tmod _ _
  · generalize (y + d + H - 1) % H = q at *
    generalize (x + e + W - 1) % W = p at *
    generalize q * W = r at *
    exact wr_nat (by push_cast; rfl) (by omega)
/-- So many cells have become what they become. -/
def tpart (B S W H : Nat) (f : Nat → Nat → Nat) (k j : Nat) : Nat := if j < k then tor B S W H f (j % W) (j / W) else 0

end Pn
end Go.Proofs.YtgagophijmiceaaDoor
