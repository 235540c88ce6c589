/- PARENTS: a map of what nothing comes of: what it says is so. -/
import Derived.Test.YthipeeagpllfeaaDoorPpPl
import Derived.Test.YthipeeagpllfeaaDoorPpMk
import Derived.Test.YthipeeagpllfeaaDoorChecked
import Derived.Maps.OwnSet
import Derived.Maps.Views
import Derived.Maps.Keyed
import Derived.WideKeyPair
namespace Go.Proofs.YthipeeagpllfeaaDoor
set_option linter.unusedSimpArgs false
set_option linter.unusedVariables false
open Go.RowKit Go.WideMaps
namespace Pn
open Tld Mem Bl

/-- A key: how many rows, the last two. -/
def mky (i a b : Nat) : Value := .agg #[.int .i64 (i : Nat), .int .i64 (a : Nat), .int .i64 (b : Nat)]
def keyL (i a b : Nat) : Lit := .string (keyBytes [.int .i64 (i : Nat), .int .i64 (a : Nat), .int .i64 (b : Nat)])
theorem arr3 : ArrKey Tryd.prog 64 3 3 := ⟨Tryd.underlying64, by kernel_rfl, by kernel_rfl, by kernel_rfl⟩
theorem keyed3 : Maps.Keyed Tryd.prog 64 := Maps.Keyed.of_law arr3.law
theorem wf_nat {n : Nat} (h : n ≤ 1000000) : (Lit.int .i64 (n : Nat)).wf = true := by
  simp [Lit.wf, IntKind.min, IntKind.max, IntKind.signed, IntKind.bits]
  omega
theorem keyOf_triple {P : Program} {k e : TypeId} {q : IntKind} (A : ArrKey P k e 3) (he : P.underlying e = some (.int q)) (hsz : ∃ m, P.types.size = m + 1) {a b c : Int} (wa : (Lit.int q a).wf = true) (wb : (Lit.int q b).wf = true) (wc : (Lit.int q c).wf = true) :
    keyOf P k (.agg #[.int q a, .int q b, .int q c]) = some (.string (keyBytes [.int q a, .int q b, .int q c])) := by
  have hkt := A.keyType hsz
  obtain ⟨m, hm⟩ := hsz
  unfold keyOf
  simp only [A.hu]
  rw [if_pos (by simp [hkt, Value.formed, A.hu, A.size]), hm]
  unfold Program.keyLits
  simp only [A.hu, Value.cells]
  rw [if_pos (by rw [A.size]; rfl), show List.range 3 = [0, 1, 2] from rfl, List.mapM_cons, List.mapM_cons, List.mapM_cons, List.mapM_nil]
  simp [A.one, Program.keyLits, he, wa, wb, wc]
theorem tsome : ∃ m, Tryd.prog.types.size = m + 1 := ⟨159 - 1, by kernel_rfl⟩
theorem mky_key {i a b : Nat} (hi : i ≤ 1000000) (ha : a ≤ 1000000) (hb : b ≤ 1000000) : keyOf Tryd.prog 64 (mky i a b) = some (keyL i a b) :=
  keyOf_triple arr3 Tryd.underlying3 tsome (wf_nat hi) (wf_nat ha) (wf_nat hb)
theorem mky_inj {i a b i' a' b' : Nat} (h : mky i a b = mky i' a' b') : i = i' ∧ a = a' ∧ b = b' := by
  unfold mky at h
  simp at h
  omega
theorem keyL_inj {i a b i' a' b' : Nat} (hi : i ≤ 1000000) (ha : a ≤ 1000000) (hb : b ≤ 1000000) (hi' : i' ≤ 1000000) (ha' : a' ≤ 1000000) (hb' : b' ≤ 1000000) (h : keyL i a b = keyL i' a' b') : i = i' ∧ a = a' ∧ b = b' := by
  have h1 := mky_key hi ha hb
  have h2 := mky_key hi' ha' hb'
  rw [← h] at h2
  exact mky_inj (keyed3.inj h1 h2)
/-- The map tells the truth. -/
def MapOK (w : World) (mb cnt : Nat) (bad : Nat → Nat → Nat → Prop) : Prop := ∃ D : DataW Nat, w.ownsMap Tryd.prog 64 (plainElem Tryd.prog 4) mb cnt D ∧
  ∀ i a b, i ≤ 1000000 → a ≤ 1000000 → b ≤ 1000000 → D.atKey (keyL i a b) (.lit (.bool false)) = .lit (.bool true) → bad i a b
set_option maxRecDepth 1000000 in
theorem plain_bool_inv {v : Value} {z : DataW Nat × List MemPlace} (h : plainElem Tryd.prog 4 v = some z) : ∃ x, v = .bool x ∧ z = (.lit (.bool x), []) := by
  unfold plainElem at h
  rw [Tryd.underlying4] at h
  cases v <;> simp at h
  exact ⟨_, rfl, h.symm⟩
theorem zero_bool (w : World) : (zeroValue 4).run Tryd.prog w = .ok (.bool false) w := by kernel_rfl
theorem MapOK.look {w : World} {mb cnt : Nat} {bad : Nat → Nat → Nat → Prop} (h : MapOK w mb cnt bad) {i a b : Nat} (hi : i ≤ 1000000) (ha : a ≤ 1000000) (hb : b ≤ 1000000) :
    ∃ c : Bool, (Instr.lookup 49 (.map (some mb)) (mky i a b) false).run Tryd.prog w = .ok (.bool c) w ∧ (c = true → bad i a b) := by
  obtain ⟨D, hD, hT⟩ := h
  obtain ⟨v, ps, hrun, hv⟩ := hD.lookup keyed3 Tryd.underlying49 (zero_bool w) (plainElem_bool Tryd.underlying4 false) (mky_key hi ha hb)
  obtain ⟨x, rfl, hx⟩ := plain_bool_inv hv
  refine ⟨x, hrun, fun hc => hT i a b hi ha hb ?_⟩
  simp only [Prod.mk.injEq] at hx
  rw [hx.1, hc]
theorem MapOK.put {w : World} {mb cnt : Nat} {bad : Nat → Nat → Nat → Prop} (h : MapOK w mb cnt bad) {i a b : Nat} (hi : i ≤ 1000000) (ha : a ≤ 1000000) (hb : b ≤ 1000000) (hc : cnt < maxLen) (hbad : bad i a b) :
    ∃ w', (Instr.mapUpdate 49 (.map (some mb)) (mky i a b) (.bool true)).run Tryd.prog w = .ok () w' ∧ MapOK w' mb (cnt + 1) bad ∧ w.grownBy w' (some mb) := by
  obtain ⟨D, hD, hT⟩ := h
  obtain ⟨w', hrun, hown, hg⟩ := hD.update keyed3 Tryd.underlying49 hc (mky_key hi ha hb) (plainElem_bool Tryd.underlying4 true)
  refine ⟨w', hrun, ⟨_, hown, fun i' a' b' hi' ha' hb' hat => ?_⟩, hg⟩
  by_cases e : i' = i ∧ a' = a ∧ b' = b
  · obtain ⟨rfl, rfl, rfl⟩ := e
    exact hbad
  · rw [Maps.atKey_put_other (fun e2 => e (keyL_inj hi' ha' hb' hi ha hb e2))] at hat
    exact hT i' a' b' hi' ha' hb' hat
theorem MapOK.made (w : World) (bad : Nat → Nat → Nat → Prop) : MapOK (w.alloc (.map #[] 0)) w.heap.size 0 bad :=
  ⟨_, World.ownsMap_made w _ _ _, fun i a b _ _ _ h => by
    have : (DataW.map [] : DataW Nat).atKey (keyL i a b) (.lit (.bool false)) = .lit (.bool false) := rfl
    rw [this] at h
    cases h⟩
theorem MapOK.lt {w : World} {mb cnt : Nat} {bad : Nat → Nat → Nat → Prop} (h : MapOK w mb cnt bad) : mb < w.heap.size := by
  obtain ⟨D, hD, _⟩ := h
  exact hD.lt
theorem MapOK.mono {w : World} {mb cnt cnt' : Nat} {bad : Nat → Nat → Nat → Prop} (h : MapOK w mb cnt bad) (hc : cnt ≤ cnt') : MapOK w mb cnt' bad := by
  obtain ⟨D, hD, hT⟩ := h
  exact ⟨D, hD.mono hc, hT⟩
theorem MapOK.kept {w w' : World} {mb cnt : Nat} {bad : Nat → Nat → Nat → Prop} {row : Option Nat} (h : MapOK w mb cnt bad) (hg : w.grownBy w' row) (hne : some mb ≠ row) : MapOK w' mb cnt bad := by
  obtain ⟨D, hD, hT⟩ := h
  exact ⟨D, hD.kept hg hne, hT⟩
theorem below_grown {w w' : World} (h : Below w.heap.size w w') : w.grownBy w' none := ⟨h.os, h.tape, h.output, h.size, fun i hi _ => h.block i hi⟩
theorem MapOK.below {w w' : World} {mb cnt : Nat} {bad : Nat → Nat → Nat → Prop} (h : MapOK w mb cnt bad) (b : Below w.heap.size w w') : MapOK w' mb cnt bad := h.kept (below_grown b) (by simp)
theorem grown_below {w w' : World} {mb B : Nat} (h : w.grownBy w' (some mb)) (hB : B ≤ mb) (hw : B ≤ w.heap.size) : Below B w w' :=
  ⟨h.os, h.tape, h.output, h.size, fun i hi => h.block i (by omega) (by simp; omega)⟩
theorem row_keptM {w w' : World} {b mb : Nat} {T : TypeId} {vs : List Value} (h : Row w b T vs) (hg : w.grownBy w' (some mb)) (hne : b ≠ mb) : Row w' b T vs :=
  (hg.block b h.lt (by simp; exact hne)).trans h
theorem is_keptM {w w' : World} {mb : Nat} {a : Option Addr} {n : Nat} {zs : List Int} (h : Ints.Is w a n zs) (hg : w.grownBy w' (some mb)) (hne : ∀ b o, a = some ⟨b, o, none⟩ → n ≠ 0 → b ≠ mb) : Ints.Is w' a n zs :=
  ⟨h.len, fun i hi => by
    obtain ⟨b, off, e, hlt, hc⟩ := h.cells i hi
    refine ⟨b, off, e, Nat.lt_of_lt_of_le hlt hg.size, ?_⟩
    rw [← hc]
    unfold World.cell?
    rw [show (⟨b, off + i, none⟩ : Addr).block = b from rfl, hg.block b hlt (by simp; exact hne b off e (by omega))], h.le⟩
/-- A map's block is no row's. -/
theorem MapOK.ne_row {w : World} {mb cnt b : Nat} {bad : Nat → Nat → Nat → Prop} {T : TypeId} {v : Value} {vs : List Value} (h : MapOK w mb cnt bad) (hr : Row w b T (v :: vs)) : b ≠ mb := fun e => by
  subst e
  obtain ⟨D, ⟨es, clock, hb, _⟩, _⟩ := h
  have hc := hr.cell 0
  unfold World.cell? at hc
  rw [hb] at hc
  simp at hc
theorem MapOK.ne_is {w : World} {mb cnt n : Nat} {bad : Nat → Nat → Nat → Prop} {a : Option Addr} {zs : List Int} (h : MapOK w mb cnt bad) (hi : Ints.Is w a n zs) : ∀ b o, a = some ⟨b, o, none⟩ → n ≠ 0 → b ≠ mb := fun b o e hn e2 => by
  subst e2
  obtain ⟨D, ⟨es, clock, hb, _⟩, _⟩ := h
  obtain ⟨b', o', e', hl, hc⟩ := hi.cells 0 (by omega)
  rw [e] at e'
  cases e'
  unfold World.cell? at hc
  rw [hb] at hc
  simp at hc
end Pn
end Go.Proofs.YthipeeagpllfeaaDoor
