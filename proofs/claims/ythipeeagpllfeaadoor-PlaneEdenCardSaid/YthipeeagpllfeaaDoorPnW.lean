/- WALK: plane.Again. -/
import Derived.Test.YthipeeagpllfeaaDoorPnS
import Derived.Test.YthipeeagpllfeaaDoorPnK
namespace Go.Proofs.YthipeeagpllfeaaDoor
set_option linter.unusedSimpArgs false
set_option linter.unusedVariables false
open Go.RowKit
namespace Pn
open Tld Mem Bl

theorem is_other2 {w w' : World} {a : Option Addr} {n c : Nat} {zs : List Int} (h : Ints.Is w a n zs) (o : Only c w w') (hne : ∀ b off, a = some ⟨b, off, none⟩ → n ≠ 0 → b ≠ c) : Ints.Is w' a n zs :=
  ⟨h.len, fun i hi => by
    obtain ⟨b, off, e, hlt, hc⟩ := h.cells i hi
    refine ⟨b, off, e, by rw [o.size]; exact hlt, ?_⟩
    rw [← hc]
    unfold World.cell?
    rw [show (⟨b, off + i, none⟩ : Addr).block = b from rfl, o.block b (hne b off e (by omega))], h.le⟩
def z3 : List Value := [.int .i64 0, .int .i64 0, .int .i64 0]
def agn (x y z : Int) : List Value := [.int .i64 x, .int .i64 y, .int .i64 z]
theorem agn_one (x y z : Int) : ∀ v ∈ agn x y z, v.oneCell' = true := by simp [agn, Value.oneCell']
theorem and1_fin : ∀ v : Fin 512, bits .and .i64 (v.val : Int) 1 = ((v.val % 2 : Nat) : Int) := by decide +kernel
theorem and1 {v : Nat} (hv : v < 512) : bits .and .i64 (v : Int) 1 = ((v % 2 : Nat) : Int) := and1_fin ⟨v, hv⟩
/-- The boxes of Again and Grow, and what the two patterns hold. -/
structure ASt (w0 wr : World) (ub fb qb rb : Nat) (RT : TypeId) (RC RZ : List Value) (W0 H0 : Nat) (a0 : Option Addr) (n0 c0 : Nat) (X0 Y0 : Int) (f0 : Nat → Nat → Nat) (Wg Hg : Nat) (ag : Option Addr) (ng cg : Nat) (Xg Yg : Int) (fg : Nat → Nat → Nat) : Prop where
  u : Row wr ub 24 RC
  fi : Row wr fb 69 (boxN W0 H0 a0 n0 c0 X0 Y0)
  q : Row wr qb 69 (boxN Wg Hg ag ng cg Xg Yg)
  r : Row wr rb RT RZ
  i0 : Ints.Is wr a0 n0 (flat W0 H0 f0)
  ig : Ints.Is wr ag ng (flat Wg Hg fg)
  n0 : ∀ b o, a0 = some ⟨b, o, none⟩ → n0 ≠ 0 → b ≠ qb ∧ b ≠ rb
  ng : ∀ b o, ag = some ⟨b, o, none⟩ → ng ≠ 0 → b ≠ qb ∧ b ≠ rb
  ne : ub ≠ qb ∧ fb ≠ qb ∧ rb ≠ qb ∧ w0.heap.size ≤ rb ∧ w0.heap.size ≤ qb
  b : Below w0.heap.size w0 wr
theorem ASt.keep {w0 wr w2 : World} {ub fb qb rb : Nat} {RT : TypeId} {RC RZ : List Value} {W0 H0 : Nat} {a0 : Option Addr} {n0 c0 : Nat} {X0 Y0 : Int} {f0 : Nat → Nat → Nat} {Wg Hg : Nat} {ag : Option Addr} {ng cg : Nat} {Xg Yg : Int} {fg : Nat → Nat → Nat}
    (h : ASt w0 wr ub fb qb rb RT RC RZ W0 H0 a0 n0 c0 X0 Y0 f0 Wg Hg ag ng cg Xg Yg fg) (k : Below wr.heap.size wr w2) : ASt w0 w2 ub fb qb rb RT RC RZ W0 H0 a0 n0 c0 X0 Y0 f0 Wg Hg ag ng cg Xg Yg fg :=
  ⟨h.u.keep k h.u.lt, h.fi.keep k h.fi.lt, h.q.keep k h.q.lt, h.r.keep k h.r.lt, h.i0.keep k, h.ig.keep k, h.n0, h.ng, h.ne, h.b.trans (k.mono h.b.size)⟩
theorem ASt.put {w0 wr w2 : World} {ub fb qb rb : Nat} {RT : TypeId} {RC RZ : List Value} {W0 H0 : Nat} {a0 : Option Addr} {n0 c0 : Nat} {X0 Y0 : Int} {f0 : Nat → Nat → Nat} {Wg Hg : Nat} {ag : Option Addr} {ng cg : Nat} {Xg Yg : Int} {fg : Nat → Nat → Nat} {W1 H1 : Nat} {a1 : Option Addr} {n1 c1 : Nat} {X1 Y1 : Int} {f1 : Nat → Nat → Nat}
    (h : ASt w0 wr ub fb qb rb RT RC RZ W0 H0 a0 n0 c0 X0 Y0 f0 Wg Hg ag ng cg Xg Yg fg) (o : Only qb wr w2) (hq : Row w2 qb 69 (boxN W1 H1 a1 n1 c1 X1 Y1)) (hi : Ints.Is wr a1 n1 (flat W1 H1 f1)) (hn : ∀ b o, a1 = some ⟨b, o, none⟩ → n1 ≠ 0 → b ≠ qb ∧ b ≠ rb) :
    ASt w0 w2 ub fb qb rb RT RC RZ W0 H0 a0 n0 c0 X0 Y0 f0 W1 H1 a1 n1 c1 X1 Y1 f1 :=
  ⟨h.u.other o h.ne.1, h.fi.other o h.ne.2.1, hq, h.r.other o h.ne.2.2.1, is_other2 h.i0 o (fun b off e k => (h.n0 b off e k).1), is_other2 hi o (fun b off e k => (hn b off e k).1), h.n0, hn, h.ne, h.b.trans (o.below h.ne.2.2.2.2)⟩
/-- The numbers that go with it. -/
structure ANum (B S : Nat) (L0 : Int → Int → Nat) (m Wg Hg ng cg : Nat) (Xg Yg : Int) (fg : Nat → Nat → Nat) : Prop where
  held : Held (far B S L0 m) Wg Hg fg Xg Yg
  len : ng = Wg * Hg
  cap : ng ≤ cg
  w : Wg ≤ 100
  h : Hg ≤ 100
  lt : 0 < Wg → ∀ x y, fg x y < 2
  x : -(1000 + m : Int) ≤ Xg ∧ Xg + Wg ≤ 1000 + m
  y : -(1000 + m : Int) ≤ Yg ∧ Yg + Hg ≤ 1000 + m
theorem ANum.pos {B S : Nat} {L0 : Int → Int → Nat} {m Wg Hg ng cg : Nat} {Xg Yg : Int} {fg : Nat → Nat → Nat} (h : ANum B S L0 m Wg Hg ng cg Xg Yg fg) (hW : 0 < Wg) : 0 < Hg := by
  rcases h.held with ⟨h1, _⟩ | ⟨h1, h2, _⟩
  · omega
  · exact h2
theorem ANum.next {B S : Nat} {L0 : Int → Int → Nat} {m Wg Hg ng cg : Nat} {Xg Yg : Int} {fg : Nat → Nat → Nat} (h : ANum B S L0 m Wg Hg ng cg Xg Yg fg) {W' H' n' c' : Nat} {X' Y' : Int} {f' : Nat → Nat → Nat} (hh : Held (nx B S (far B S L0 m)) W' H' f' X' Y') (hw : W' ≤ 100) (hh2 : H' ≤ 100) (hn : n' = W' * H') (hc : n' ≤ c')
    (hx : (W' = 0 ∧ X' = 0 ∧ Y' = 0) ∨ (0 < W' ∧ Xg - 1 ≤ X' ∧ X' + W' ≤ Xg + Wg + 1 ∧ Yg - 1 ≤ Y' ∧ Y' + H' ≤ Yg + Hg + 1)) (hl : 0 < W' → ∀ x y, f' x y < 2) : ANum B S L0 (m + 1) W' H' n' c' X' Y' f' := by
  have h1 := h.x
  have h2 := h.y
  have hH : W' = 0 → H' = 0 := fun e => by
    rcases hh with ⟨_, h2, _⟩ | ⟨h1, _⟩
    · exact h2
    · omega
  exact ⟨hh, hn, hc, hw, hh2, hl, by push_cast; omega, by push_cast; omega⟩

end Pn
end Go.Proofs.YthipeeagpllfeaaDoor
