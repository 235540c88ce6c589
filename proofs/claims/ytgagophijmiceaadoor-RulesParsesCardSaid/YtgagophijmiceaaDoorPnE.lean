/- WALK: the document's edenref3.Torus. -/
import Derived.Test.YtgagophijmiceaaDoorPnD
import Derived.Test.YtgagophijmiceaaDoorPnM
namespace Go.Proofs.YtgagophijmiceaaDoor
set_option linter.unusedSimpArgs false
set_option linter.unusedVariables false
open Go.RowKit
namespace Pn
open Tld Mem Bl

theorem lstN_succ {P : Nat} {F : Nat → Nat} : lstN (P + 1) F = lstN P F ++ [((F P : Nat) : Int)] := by simp [lstN, List.range_succ]
theorem lstN_zero {F : Nat → Nat} : lstN 0 F = [] := by simp [lstN]
/-- The first k of the nine cells about a place on rings, but for the middle one. -/
def sumD (W H : Nat) (f : Nat → Nat → Nat) (x y : Nat) : Nat → Nat
  | 0 => 0
  | k + 1 => sumD W H f x y k + if k = 4 then 0 else f ((x + k % 3 + W - 1) % W) ((y + k / 3 + H - 1) % H)
theorem sumD_le {W H x y : Nat} {f : Nat → Nat → Nat} (hf : ∀ x y, f x y < 2) : ∀ k, sumD W H f x y k ≤ k
  | 0 => Nat.le_refl _
  | k + 1 => by
    have h1 := sumD_le (W := W) (H := H) (x := x) (y := y) hf k
    have h2 := hf ((x + k % 3 + W - 1) % W) ((y + k / 3 + H - 1) % H)
    show sumD W H f x y k + (if k = 4 then 0 else _) ≤ k + 1
    split <;> omega
theorem sumD_nine {W H x y : Nat} {f : Nat → Nat → Nat} (hx : x < W) (hy : y < H) : sumD W H f x y 9 = nineT W H f x y - f x y := by
  have e1 : (x + 1 + W - 1) % W = x := by rw [show x + 1 + W - 1 = x + W by omega, Nat.add_mod_right, Nat.mod_eq_of_lt hx]
  have e2 : (y + 1 + H - 1) % H = y := by rw [show y + 1 + H - 1 = y + H by omega, Nat.add_mod_right, Nat.mod_eq_of_lt hy]
  have h : sumD W H f x y 9 = 0 + f ((x + 0 + W - 1) % W) ((y + 0 + H - 1) % H) + f ((x + 1 + W - 1) % W) ((y + 0 + H - 1) % H) + f ((x + 2 + W - 1) % W) ((y + 0 + H - 1) % H) +
    f ((x + 0 + W - 1) % W) ((y + 1 + H - 1) % H) + 0 + f ((x + 2 + W - 1) % W) ((y + 1 + H - 1) % H) +
    f ((x + 0 + W - 1) % W) ((y + 2 + H - 1) % H) + f ((x + 1 + W - 1) % W) ((y + 2 + H - 1) % H) + f ((x + 2 + W - 1) % W) ((y + 2 + H - 1) % H) := rfl
  rw [h]
  unfold nineT
  rw [e1, e2]
  omega
/-- The numbers of a neighbour's step, as the document takes it. -/
theorem dtor_nums {x y d e W H : Nat} (hx : x < W) (hy : y < H) (hd : d < 3) (he : e < 3) (hW : W ≤ 200) (hH : H ≤ 200) :
    ∃ x1 y1 : Int, ∃ x2 y2 x4 y4 y5 i : Nat, i = ((y + d + H - 1) % H) * W + (x + e + W - 1) % W ∧ i < W * H ∧
      wrap64 ((x : Int) + ((e : Int) - 1)) = x1 ∧ wrap64 (x1 + (W : Int)) = (x2 : Int) ∧ (x2 : Int).tmod (W : Int) = (x4 : Int) ∧
      wrap64 ((y : Int) + ((d : Int) - 1)) = y1 ∧ wrap64 (y1 + (H : Int)) = (y2 : Int) ∧ (y2 : Int).tmod (H : Int) = (y4 : Int) ∧
      wrap64 ((y4 : Int) * (W : Int)) = (y5 : Int) ∧ wrap64 ((y5 : Int) + (x4 : Int)) = (i : Int) := by
  have h1 : (x + e + W - 1) % W < W := Nat.mod_lt _ (by omega)
  have h2 : (y + d + H - 1) % H < H := Nat.mod_lt _ (by omega)
  have h3 := at_lt h1 h2
  have h4 : W * H ≤ 200 * 200 := Nat.mul_le_mul hW hH
  refine ⟨(x : Int) + ((e : Int) - 1), (y : Int) + ((d : Int) - 1), x + e + W - 1, y + d + H - 1, (x + e + W - 1) % W, (y + d + H - 1) % H, ((y + d + H - 1) % H) * W, _, rfl, h3, wr_in (by omega) (by omega), ?_, Int.ofNat_tmod _ _, wr_in (by omega) (by omega), ?_, Int.ofNat_tmod _ _, ?_, ?_⟩
  · exact wr_nat (by omega) (by omega)
  · exact wr_nat (by omega) (by omega)
  · generalize (y + d + H - 1) % H = q at *
    generalize (x + e + W - 1) % W = p at *
    exact wr_nat (by push_cast; rfl) (by omega)
  · generalize (y + d + H - 1) % H = q at *
    generalize (x + e + W - 1) % W = p at *
    generalize q * W = r at *
    exact wr_nat (by push_cast; rfl) (by omega)
/-- The boxes of a walk that puts cells end to end. -/
structure TSt (w0 wr : World) (ub gb rb qb : Nat) (UT GT RT : TypeId) (RC PC RZ : List Value) (W H : Int) (F : Nat → Nat) (k : Nat) (vs : Value) : Prop where
  u : Row wr ub UT RC
  g : Row wr gb GT PC
  r : Row wr rb RT RZ
  q : Row wr qb 35 [.int .i64 W, .int .i64 H, vs]
  o : wr.ownsRow w0.heap.size 3 1 vs k ((lstN k F).map (Value.int .i64))
  b : Below w0.heap.size w0 wr
  ne : w0.heap.size ≤ qb ∧ ub ≠ qb ∧ gb ≠ qb ∧ rb ≠ qb
  ty : UT ≠ 3 ∧ GT ≠ 3 ∧ RT ≠ 3
theorem TSt.keep {w0 wr w2 : World} {ub gb rb qb : Nat} {UT GT RT : TypeId} {RC PC RZ : List Value} {W H : Int} {F : Nat → Nat} {k : Nat} {vs : Value} (h : TSt w0 wr ub gb rb qb UT GT RT RC PC RZ W H F k vs) (b : Below wr.heap.size wr w2) : TSt w0 w2 ub gb rb qb UT GT RT RC PC RZ W H F k vs :=
  ⟨h.u.keep b h.u.lt, h.g.keep b h.g.lt, h.r.keep b h.r.lt, h.q.keep b h.q.lt, own_keep h.o b, h.b.trans (b.mono h.b.size), h.ne, h.ty⟩
theorem TSt.grown {w0 wr w2 : World} {ub gb rb qb : Nat} {UT GT RT : TypeId} {RC PC RZ : List Value} {W H : Int} {F : Nat → Nat} {k : Nat} {vs : Value} (h : TSt w0 wr ub gb rb qb UT GT RT RC PC RZ W H F k vs) (hg : wr.grownBy w2 vs.ownBlock) : Row w2 qb 35 [.int .i64 W, .int .i64 H, vs] := row_grown h.o hg h.q (by decide)
theorem TSt.after {w0 wr w2 : World} {ub gb rb qb : Nat} {UT GT RT : TypeId} {RC PC RZ : List Value} {W H : Int} {F : Nat → Nat} {k : Nat} {vs : Value} (h : TSt w0 wr ub gb rb qb UT GT RT RC PC RZ W H F k vs) (hg : wr.grownBy w2 vs.ownBlock) : Row w2 gb GT PC ∧ Row w2 qb 35 [.int .i64 W, .int .i64 H, vs] ∧ Below w0.heap.size w0 w2 :=
  ⟨row_grown h.o hg h.g h.ty.2.1, h.grown hg, h.b.grown hg h.b.size (own_low h.o)⟩
theorem TSt.push {w0 wr w2 : World} {ub gb rb qb : Nat} {UT GT RT : TypeId} {RC PC RZ : List Value} {W H : Int} {F : Nat → Nat} {k : Nat} {vs vs' : Value} {v : Nat} (h : TSt w0 wr ub gb rb qb UT GT RT RC PC RZ W H F k vs) (hg : wr.grownBy w2 vs.ownBlock)
    (ho : w2.ownsRow w0.heap.size 3 1 vs' (k + 1) ((lstN k F).map (Value.int .i64) ++ [.int .i64 (v : Nat)])) (hv : F k = v) : TSt w0 (w2.setCell ⟨qb, 2, none⟩ vs') ub gb rb qb UT GT RT RC PC RZ W H F (k + 1) vs' := by
  have hu := row_grown h.o hg h.u h.ty.1
  have hgg := row_grown h.o hg h.g h.ty.2.1
  have hr := row_grown h.o hg h.r h.ty.2.2
  have hq := h.grown hg
  have hb := h.b.grown hg h.b.size (own_low h.o)
  have ho9 := only_setCell w2 qb 2 vs'
  have hq9 : Row (w2.setCell ⟨qb, 2, none⟩ vs') qb 35 [.int .i64 W, .int .i64 H, vs'] := hq.set 2 _
  have hs : (lstN (k + 1) F).map (Value.int .i64) = (lstN k F).map (Value.int .i64) ++ [.int .i64 (v : Nat)] := by rw [lstN_succ, List.map_append, hv]; rfl
  refine ⟨hu.other ho9 h.ne.2.1, hgg.other ho9 h.ne.2.2.1, hr.other ho9 h.ne.2.2.2, hq9, ?_, hb.trans (ho9.below h.ne.1), h.ne, h.ty⟩
  rw [hs]
  exact own_only ho ho9 (own_ne ho hq (by decide))

end Pn
end Go.Proofs.YtgagophijmiceaaDoor
