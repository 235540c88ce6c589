/- MEMORY, FOR READING: what a slice that came in gives a walk: its cells, one by one; over any program. -/
import Derived.WalkKit
import Derived.ProofKit
import Derived.OpenShut
import Derived.SliceStrings
import Derived.Deep.Slices
import Derived.BigQuiet
import Derived.Deep.QuietTactic
import Derived.WalkSmall
import Derived.Carry
import Derived.Deep.MidRow
import Derived.Laws.Rows
namespace Go.Proofs.YtgagophijmiceaaDoor
set_option linter.unusedSimpArgs false
set_option linter.unusedVariables false
open Go.ChangeShapes Go.WideShapes Go.ChangeAt Go.RowKit Go.Deep
namespace Mem

/-- The first n cells of a slice whose elements take one cell each. -/
def Cells (w : World) (a : Option Addr) (n : Nat) (f : Nat → Value) : Prop :=
  ∀ i, i < n → ∃ b off, a = some ⟨b, off, none⟩ ∧ b < w.heap.size ∧ w.cell? ⟨b, off + i, none⟩ = some (f i)

/-- .. and of one whose elements are structs of s cells. -/
def Rows (w : World) (a : Option Addr) (n s : Nat) (f : Nat → Nat → Value) : Prop :=
  ∀ i, i < n → ∃ b off, a = some ⟨b, off, none⟩ ∧ b < w.heap.size ∧ ∀ j, j < s → w.cell? ⟨b, off + i * s + j, none⟩ = some (f i j)

/-- A block that bears a mark (what '[]byte(s)' lays): no row that an append goes on with. -/
def Sealed (w : World) (k : Nat) (c : Array Value) : Prop := ∃ e fz, w.heap[k]? = some (.cells c e fz) ∧ fz ≠ (0, 0)
theorem Sealed.cell {w : World} {k : Nat} {c : Array Value} (h : Sealed w k c) (i : Nat) : w.cell? ⟨k, i, none⟩ = c[i]? := by
  obtain ⟨e, fz, hb, _⟩ := h
  simp [World.cell?, hb]
theorem Sealed.lt {w : World} {k : Nat} {c : Array Value} (h : Sealed w k c) : k < w.heap.size := by
  obtain ⟨e, fz, hb, _⟩ := h
  exact (Array.getElem?_eq_some_iff.1 hb).1
/-- All blocks that bear a mark, b aside, stand as they stood. -/
def KeepsSealed (b : Nat) (w w' : World) : Prop := ∀ k c, k ≠ b → Sealed w k c → Sealed w' k c
theorem KeepsSealed.refl (b : Nat) (w : World) : KeepsSealed b w w := fun _ _ _ h => h
theorem KeepsSealed.trans {b : Nat} {u v w : World} (h : KeepsSealed b u v) (k : KeepsSealed b v w) : KeepsSealed b u w := fun i c hi hs => k i c hi (h i c hi hs)

theorem lt_of_cell {w : World} {a : Addr} {v : Value} (h : w.cell? a = some v) : a.block < w.heap.size := by
  rcases Nat.lt_or_ge a.block w.heap.size with h0 | h0
  · exact h0
  · simp [World.cell?, Array.getElem?_eq_none h0] at h

theorem Cells.below {w w' : World} {a : Option Addr} {n : Nat} {f : Nat → Value} {B : Nat} (h : Cells w a n f) (hb : Below B w w') (hB : w.heap.size ≤ B) : Cells w' a n f := fun i hi => by
  obtain ⟨b, off, e, hlt, hc⟩ := h i hi
  exact ⟨b, off, e, Nat.lt_of_lt_of_le hlt hb.size, by rw [hb.cell (p := ⟨b, off + i, none⟩) (Nat.lt_of_lt_of_le hlt hB)]; exact hc⟩
theorem Cells.keep {w w' : World} {a : Option Addr} {n : Nat} {f : Nat → Value} (h : Cells w a n f) (hb : Below w.heap.size w w') : Cells w' a n f := h.below hb (Nat.le_refl _)
theorem Rows.below {w w' : World} {a : Option Addr} {n s : Nat} {f : Nat → Nat → Value} {B : Nat} (h : Rows w a n s f) (hb : Below B w w') (hB : w.heap.size ≤ B) : Rows w' a n s f := fun i hi => by
  obtain ⟨b, off, e, hlt, hc⟩ := h i hi
  exact ⟨b, off, e, Nat.lt_of_lt_of_le hlt hb.size, fun j hj => by rw [hb.cell (p := ⟨b, off + i * s + j, none⟩) (Nat.lt_of_lt_of_le hlt hB)]; exact hc j hj⟩
theorem Rows.keep {w w' : World} {a : Option Addr} {n s : Nat} {f : Nat → Nat → Value} (h : Rows w a n s f) (hb : Below w.heap.size w w') : Rows w' a n s f := h.below hb (Nat.le_refl _)

section
variable {H : Type} {enc : TypeId × Value → H} {P : Program} {w : World} {base : Nat} {spare : Nat → Bool} {held : Bool}

/-- A cell that is there has no spot. -/
theorem spotless {x : Addr} {v : Value} (h : w.cell? (x.add 0) = some v) : x = ⟨x.block, x.off, none⟩ := by
  obtain ⟨b, off, spot⟩ := x
  have : spot = none := by simpa [Addr.add] using World.cell?_spot h
  subst this; rfl

theorem cells_of {a : Addr} {n : Nat} {f : Nat → Value} (h : ∀ i, i < n → w.cell? (a.add i) = some (f i)) : Cells w (some a) n f := fun i hi => by
  have hs := spotless (h 0 (by omega))
  have hc := h i hi
  generalize a.block = b at *
  generalize a.off = o at *
  subst hs
  have hc' : w.cell? ⟨b, o + i, none⟩ = some (f i) := by
    have e : (⟨b, o, none⟩ : Addr).add i = ⟨b, o + i, none⟩ := by simp [Addr.add]
    rw [← e]; exact hc
  exact ⟨b, o, rfl, lt_of_cell hc', hc'⟩

/-- A slice of integers that came in. -/
theorem open_ints_any {t e : TypeId} {k : IntKind} {v : Value} {d : DataW H} {p : List MemPlace} {r : Reach} {b0 : Nat} (ht : P.underlying t = some (.slice e)) (he : P.underlying e = some (.int k)) (hc : P.cellsOf e = 1)
    (hv : Value.okWide P w r b0 t v) (h : DataW.Trod enc P w base spare held t v d p) :
    ∃ a n c, ∃ zs : List Int, v = .slice a n c ∧ zs.length = n ∧ n ≤ c ∧ c ≤ maxLen ∧ Cells w a n (fun i => .int k (zs.getD i 0)) ∧ (∀ z ∈ zs, (Lit.int k z).wf = true) ∧ (a = none → n = 0 ∧ c = 0) := by
  obtain ⟨a0, len, cap, rfl⟩ := okWide_slice ht hv
  obtain ⟨fuel, hf⟩ := h
  rcases open_ints ht he hc hf with ⟨hcs, _⟩ | ⟨x, l, c, zs, hcs, _, hl, hm, hz, _, hcell, hwz⟩
  · simp [Value.cells] at hcs
    obtain ⟨rfl, rfl, rfl⟩ := hcs
    exact ⟨none, 0, 0, [], rfl, rfl, Nat.le_refl _, Nat.zero_le _, fun i hi => absurd hi (Nat.not_lt_zero _), fun _ h => by simp at h, fun _ => ⟨rfl, rfl⟩⟩
  · simp [Value.cells] at hcs
    obtain ⟨e1, e2, e3⟩ := hcs
    subst e1 e2 e3
    have hlen : len ≤ zs.length := by rw [hz]; split <;> omega
    refine ⟨some x, len, cap, zs.take len, rfl, by simp; omega, hl, hm, ?_, fun z hz' => hwz z (List.mem_of_mem_take hz'), fun h => by cases h⟩
    refine cells_of fun i hi => ?_
    rw [hcell i (by omega), List.getD_eq_getElem?_getD, List.getD_eq_getElem?_getD, List.getElem?_take_of_lt hi]

/-- A slice of strings that came in. -/
theorem open_strings_any {t e : TypeId} {v : Value} {d : DataW H} {p : List MemPlace} {r : Reach} {b0 : Nat} (ht : P.underlying t = some (.slice e)) (he : P.underlying e = some .string) (hc : P.cellsOf e = 1)
    (hv : Value.okWide P w r b0 t v) (h : DataW.Trod enc P w base spare held t v d p) :
    ∃ a n c, ∃ ss : List ByteArray, v = .slice a n c ∧ ss.length = n ∧ n ≤ c ∧ c ≤ maxLen ∧ Cells w a n (fun i => .string (ss.getD i ByteArray.empty)) ∧ (∀ s ∈ ss, s.size ≤ maxLen) ∧ (a = none → n = 0 ∧ c = 0) := by
  obtain ⟨a0, len, cap, rfl⟩ := okWide_slice ht hv
  obtain ⟨fuel, hf⟩ := h
  rcases open_strings ht he hc hf with ⟨hcs, _⟩ | ⟨x, l, c, ss, hcs, _, hl, hm, hz, _, hcell, hwz⟩
  · simp [Value.cells] at hcs
    obtain ⟨rfl, rfl, rfl⟩ := hcs
    exact ⟨none, 0, 0, [], rfl, rfl, Nat.le_refl _, Nat.zero_le _, fun i hi => absurd hi (Nat.not_lt_zero _), fun _ h => by simp at h, fun _ => ⟨rfl, rfl⟩⟩
  · simp [Value.cells] at hcs
    obtain ⟨e1, e2, e3⟩ := hcs
    subst e1 e2 e3
    have hlen : len ≤ ss.length := by rw [hz]; split <;> omega
    refine ⟨some x, len, cap, ss.take len, rfl, by simp; omega, hl, hm, ?_, fun z hz' => hwz z (List.mem_of_mem_take hz'), fun h => by cases h⟩
    refine cells_of fun i hi => ?_
    rw [hcell i (by omega), List.getD_eq_getElem?_getD, List.getD_eq_getElem?_getD, List.getElem?_take_of_lt hi]

end

/-! ### a block of cells that the call itself has made -/

/-- Block b is a variable or a row of type T that holds the cells cs and may be written. -/
def Row (w : World) (b : Nat) (T : TypeId) (cs : List Value) : Prop := w.heap[b]? = some (.cells cs.toArray T (0, 0))
/-- The worlds part at block b alone. -/
structure Only (b : Nat) (w w' : World) : Prop where
  os : w'.os = w.os
  tape : w'.tape = w.tape
  output : w'.output = w.output
  size : w'.heap.size = w.heap.size
  block : ∀ k, k ≠ b → w'.heap[k]? = w.heap[k]?

theorem Only.refl (b : Nat) (w : World) : Only b w w := ⟨rfl, rfl, rfl, rfl, fun _ _ => rfl⟩
theorem Only.trans {b : Nat} {u v w : World} (h : Only b u v) (k : Only b v w) : Only b u w :=
  ⟨k.os.trans h.os, k.tape.trans h.tape, k.output.trans h.output, k.size.trans h.size, fun i hi => (k.block i hi).trans (h.block i hi)⟩
theorem Only.below {b B : Nat} {w w' : World} (h : Only b w w') (hB : B ≤ b) : Below B w w' := ⟨h.os, h.tape, h.output, Nat.le_of_eq h.size.symm, fun k hk => h.block k (by omega)⟩
theorem only_setCell (w : World) (b i : Nat) (v : Value) : Only b w (w.setCell ⟨b, i, none⟩ v) :=
  ⟨rfl, rfl, rfl, by simp [World.setCell], fun k hk => Below.heap_setCell _ _ _ _ hk⟩
theorem only_drew {b : Nat} {w w' : World} (h : Only b w w') : Only b w w'.drew := ⟨h.os, h.tape, h.output, h.size, h.block⟩
theorem only_drewN {b : Nat} {w w' : World} (h : Only b w w') (n : Nat) : Only b w (w'.drewN n) := ⟨h.os, h.tape, h.output, h.size, h.block⟩

theorem Row.lt {w : World} {b : Nat} {T : TypeId} {cs : List Value} (h : Row w b T cs) : b < w.heap.size := (Array.getElem?_eq_some_iff.1 h).1
theorem Row.cell {w : World} {b : Nat} {T : TypeId} {cs : List Value} (h : Row w b T cs) (i : Nat) : w.cell? ⟨b, i, none⟩ = cs[i]? := by
  unfold Row at h
  simp [World.cell?, h]
theorem Row.frozen {w : World} {b : Nat} {T : TypeId} {cs : List Value} (h : Row w b T cs) (i : Nat) : w.frozen? ⟨b, i, none⟩ = false := frozen_of_row w b i _ T h
theorem Row.set {w : World} {b : Nat} {T : TypeId} {cs : List Value} (h : Row w b T cs) (i : Nat) (v : Value) : Row (w.setCell ⟨b, i, none⟩ v) b T (cs.set i v) := by
  unfold Row
  rw [heap_setCell_same w b i _ T v h]
  simp
theorem Row.other {w w' : World} {b c : Nat} {T : TypeId} {cs : List Value} (h : Row w b T cs) (k : Only c w w') (hne : b ≠ c) : Row w' b T cs := (k.block b hne).trans h
theorem Row.keep {w w' : World} {b B : Nat} {T : TypeId} {cs : List Value} (h : Row w b T cs) (k : Below B w w') (hlt : b < B) : Row w' b T cs := (k.block b hlt).trans h
theorem Row.drew {w : World} {b : Nat} {T : TypeId} {cs : List Value} (h : Row w b T cs) : Row w.drew b T cs := h
theorem Row.drewN {w : World} {b : Nat} {T : TypeId} {cs : List Value} (h : Row w b T cs) (n : Nat) : Row (w.drewN n) b T cs := h
theorem row_alloc (w : World) (T : TypeId) (cs : List Value) : Row (w.alloc (.cells cs.toArray T)) w.heap.size T cs := by
  unfold Row
  show (w.heap.push _)[w.heap.size]? = _
  simp
theorem Sealed.other {w w' : World} {b k : Nat} {c : Array Value} (h : Sealed w k c) (o : Only b w w') (hne : k ≠ b) : Sealed w' k c := by
  obtain ⟨e, fz, hb, hf⟩ := h
  exact ⟨e, fz, (o.block k hne).trans hb, hf⟩
theorem Sealed.keep {w w' : World} {B k : Nat} {c : Array Value} (h : Sealed w k c) (o : Below B w w') (hlt : k < B) : Sealed w' k c := by
  obtain ⟨e, fz, hb, hf⟩ := h
  exact ⟨e, fz, (o.block k hlt).trans hb, hf⟩

theorem row_setCells {b : Nat} {T : TypeId} : ∀ (vs : List Value) (i : Nat) (w : World) (cs : List Value), Row w b T cs → i + vs.length = cs.length → Row (w.setCells b i vs) b T (cs.take i ++ vs) ∧ Only b w (w.setCells b i vs)
  | [], i, w, cs, h, hl => by
    refine ⟨?_, Only.refl _ _⟩
    simp at hl
    rw [List.append_nil, List.take_of_length_le (by omega)]
    exact h
  | v :: r, i, w, cs, h, hl => by
    simp only [List.length_cons] at hl
    have h1 := row_setCells r (i + 1) (w.setCell ⟨b, i, none⟩ v) (cs.set i v) (h.set i v) (by simp; omega)
    refine ⟨?_, (only_setCell w b i v).trans h1.2⟩
    have e : (cs.set i v).take (i + 1) ++ r = cs.take i ++ v :: r := by
      rw [List.take_succ_eq_append_getElem (by simp; omega), List.take_set_of_le (Nat.le_refl i)]
      simp
    rw [← e]
    exact h1.1


/-! ### rows that append goes on with -/
theorem Only.grown {b : Nat} {w w' : World} (h : Only b w w') : w.grownBy w' (some b) := ⟨h.os, h.tape, h.output, Nat.le_of_eq h.size.symm, fun k _ hk => h.block k (fun e => hk (by rw [e]))⟩
theorem own_ne {w : World} {B : Nat} {e T : TypeId} {v : Value} {n p : Nat} {xs cs : List Value} (h : w.ownsRow B e 1 v n xs) (hR : Row w p T cs) (hT : T ≠ e) : v.ownBlock ≠ some p := fun hb => by
  rcases h.2 with ⟨rfl, _⟩ | ⟨g, cap, cur, rfl, _, hg, _⟩
  · simp [Value.ownBlock] at hb
  · simp only [Value.ownBlock, Option.some.injEq] at hb
    subst hb
    unfold Row at hR
    rw [hR] at hg
    simp only [Option.some.injEq, Obj.cells.injEq] at hg
    exact hT hg.2.1
theorem own_only {w w' : World} {B : Nat} {e : TypeId} {v : Value} {n p : Nat} {xs : List Value} (h : w.ownsRow B e 1 v n xs) (ho : Only p w w') (hne : v.ownBlock ≠ some p) : w'.ownsRow B e 1 v n xs :=
  h.kept ho.grown (.inr hne)
theorem own_keep {w w' : World} {B : Nat} {e : TypeId} {v : Value} {n : Nat} {xs : List Value} (h : w.ownsRow B e 1 v n xs) (hb : Below w.heap.size w w') : w'.ownsRow B e 1 v n xs := by
  refine h.kept (row := none) ⟨hb.os, hb.tape, hb.output, hb.size, fun k hk _ => hb.block k hk⟩ ?_
  cases v.ownBlock <;> simp
theorem row_grown {w w' : World} {B : Nat} {e T : TypeId} {v : Value} {n p : Nat} {xs cs : List Value} (h : w.ownsRow B e 1 v n xs) (hg : w.grownBy w' v.ownBlock) (hR : Row w p T cs) (hT : T ≠ e) : Row w' p T cs :=
  (hg.block p hR.lt (fun x => own_ne h hR hT x.symm)).trans hR
theorem own_cell {w : World} {B : Nat} {e : TypeId} {g n c : Nat} {xs : List Value} (h : w.ownsRow B e 1 (.slice (some ⟨g, 0, none⟩) n c) n xs) {i : Nat} {u : Value} (hi : xs[i]? = some u) : w.cell? ⟨g, i, none⟩ = some u := by
  have := h.cells (g := g) rfl i u hi
  rw [Addr.add_mid, Nat.zero_add] at this
  exact this
/-- A slice that is written out: it owns its row. -/
theorem own_made {w : World} {e : TypeId} {b B : Nat} {cs : List Value} (h : Row w b e cs) (hB : B ≤ b) (hn : cs.length ≤ maxLen) : w.ownsRow B e 1 (.slice (some ⟨b, 0, none⟩) cs.length cs.length) cs.length cs :=
  ⟨by simp, .inr ⟨b, cs.length, cs.toArray, rfl, hB, h, Nat.le_refl _, hn, by simp, by simp⟩⟩

end Mem
end Go.Proofs.YtgagophijmiceaaDoor
