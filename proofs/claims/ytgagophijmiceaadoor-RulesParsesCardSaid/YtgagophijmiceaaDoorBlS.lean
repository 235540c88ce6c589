/- WALK: slices.Clone at []int; one step of blocks. -/
import Derived.Test.YtgagophijmiceaaDoorBlCk
import Derived.Test.YtgagophijmiceaaDoorBlG
import Derived.Maps.AppendAt
import Derived.BigRegion
import Derived.Lib.SliceRun
namespace Go.Proofs.YtgagophijmiceaaDoor
set_option linter.unusedSimpArgs false
set_option linter.unusedVariables false
open Go.RowKit Go.Lib
namespace Bl
open Tld Mem

theorem infoIntB : (Tryd.prog.info? 3).map (fun i => (i.zero, i.size, i.bytes)) = some (some (.int .i64 0), 1, 8) := by kernel_rfl
theorem Cells.get {w : World} {a : Option Addr} {n : Nat} {f : Nat → Value} (h : Cells w a n f) {x : Addr} (hx : a = some x) {j : Nat} (hj : j < n) : w.cell? (x.add j) = some (f j) := by
  obtain ⟨b, off, e, _, hc⟩ := h j hj
  rw [hx] at e
  cases e
  rw [Addr.add_mid]
  exact hc
set_option maxHeartbeats 2000000 in
set_option maxRecDepth 100000 in
/-- slices.Clone: the same numbers, in memory of the call's own. -/
theorem clone_any (a : Option Addr) (n c : Nat) (zs : List Int) (w : World) (hz : zs.length = n) (hs : n ≤ 1000000) (hZ : Cells w a n (fun i => .int .i64 (zs.getD i 0))) (hnil : a = none → n = 0) :
    Calls Tryd.prog 68 #[.slice a n c] w fun e w' => ∃ v', e = .returned v' ∧ w'.ownsRow w.heap.size 3 1 v' n (zs.map (Value.int .i64)) ∧ Below w.heap.size w w' := by
  have qT : ∀ (w : World) (a : Option Addr) (n c n' c' : Nat), (binOp .eql 22 (.slice a n c) (.slice none n' c')).run Tryd.prog w = .ok (.bool a.isNone) w := fun w a n c n' c' => Lib.run_eql_slice_nil w _ _ a n c n' c' Tryd.underlying22
  obtain ⟨i0, hI0, hz0, hz1, hz2⟩ := info_parts infoIntB
  have HZ := Lib.hid hZ
  have HL := Lib.hid hz
  clear hZ hz
  cases a with
  | none =>
    obtain rfl := hnil rfl
    obtain rfl : zs = [] := List.eq_nil_of_length_eq_zero HL.out
    go_enter Tryd.func68, Tryd.ntmps68
    go_wp2
    go_ret
    exact ⟨_, rfl, ⟨rfl, .inl ⟨rfl, rfl⟩⟩, Below.refl _ _⟩
  | some x =>
    go_enter Tryd.func68, Tryd.ntmps68
    go_wp2_with (at_builtin; refine wpList_append_own _ rfl _ _ 22 rfl w.heap.size 3 i0 (.int .i64 0) 1 8 Tryd.underlying22 hI0 hz0 hz1 hz2 rfl (by decide) _ _ _ rfl (World.ownsRow_made w #[] 0 (Nat.le_refl _) (Nat.zero_le _) rfl) x n c (zs.map (Value.int .i64)) rfl ?qc1 ?qc2 ?qc3 ?qc4 ?qc5 ?qc6 ?_)
    case qc1 => simp [HL.out]
    case qc2 =>
      intro j u hj
      have hjn : j < n := by
        have := (List.getElem?_eq_some_iff.1 hj).1
        rw [List.length_map, HL.out] at this
        exact this
      have h1 := Cells.get HZ.out rfl hjn
      refine Lib.cell?_alloc_some _ ?_
      rw [h1]
      have e : (zs.map (Value.int .i64))[j]? = some (Value.int .i64 (zs.getD j 0)) := by simp [List.getD_eq_getElem?_getD, List.getElem?_eq_getElem (show j < zs.length from by rw [HL.out]; exact hjn)]
      rw [e] at hj
      exact hj
    case qc3 => intro u hu; obtain ⟨x, _, rfl⟩ := List.mem_map.1 hu; rfl
    case qc4 => unfold maxLen; omega
    case qc5 => omega
    case qc6 => simp
    intro v' w1 hown hgrow hnil'
    go_wp2
    go_ret
    refine ⟨v', rfl, by simpa using hown, ?_⟩
    exact ((Below.refl _ w).alloc (Nat.le_refl _) _).grown hgrow (by simp) (by intro k hk; simp [Value.ownBlock] at hk; omega)

/-- A slice in block g that holds a grid. -/
def Holds (w : World) (g : Nat) (a : Option Addr) (W H : Nat) (c : Nat → Nat → Nat) : Prop := 0 < W → 0 < H → a = some ⟨g, 0, none⟩ ∧ ∃ cs, Row w g 3 cs ∧ Grd cs W H c
theorem Holds.congr {w : World} {g : Nat} {a : Option Addr} {W H : Nat} {c d : Nat → Nat → Nat} (h : Holds w g a W H c) (e : ∀ x y, x < W → y < H → c x y = d x y) : Holds w g a W H d := fun h1 h2 => by
  obtain ⟨e1, cs, hR, hG⟩ := h h1 h2
  exact ⟨e1, cs, hR, hG.congr e⟩
theorem Holds.keep {w w' : World} {g : Nat} {a : Option Addr} {W H : Nat} {c : Nat → Nat → Nat} (h : Holds w g a W H c) (hb : Below w.heap.size w w') : Holds w' g a W H c := fun h1 h2 => by
  obtain ⟨e1, cs, hR, hG⟩ := h h1 h2
  exact ⟨e1, cs, hR.keep hb hR.lt, hG⟩
theorem grown_of_below {w w' : World} {r : Option Nat} (h : Below w.heap.size w w') : w.grownBy w' r := ⟨h.os, h.tape, h.output, h.size, fun k hk _ => h.block k hk⟩
theorem grown_only {w w' : World} {g : Nat} (h : Only g w w') : w.grownBy w' (some g) := h.grown
/-- The places of a block's first i cells; the others are 0. -/
def atL (K : Nat → Nat) (i : Nat) : List Value := (List.range 4).map fun j => if j < i then .int .i64 ((K j : Nat) : Int) else .int .i64 0
theorem atL_next (K : Nat → Nat) {i : Nat} (h : i < 4) : (atL K i).set i (.int .i64 ((K i : Nat) : Int)) = atL K (i + 1) := by
  match i, h with
  | 0, _ => rfl
  | 1, _ => rfl
  | 2, _ => rfl
  | 3, _ => rfl
theorem atL_get (K : Nat → Nat) {i j : Nat} (h : j < 4) (hi : j < i) : (atL K i)[j]? = some (.int .i64 ((K j : Nat) : Int)) := by
  unfold atL
  rw [List.getElem?_map, List.getElem?_range h]
  simp [hi]
theorem atL_zero (K : Nat → Nat) {i : Nat} (h : i < 4) : (atL K i)[i]? = some (.int .i64 0) := by
  unfold atL
  rw [List.getElem?_map, List.getElem?_range h]
  simp
theorem nxt_tmod {W x e : Nat} (hx : x < W) (he : e ≤ 1) : ((x : Int) + (e : Int)).tmod (W : Int) = (nxt W x e : Nat) := by
  rw [← nxt_mod hx he, show ((x : Int) + (e : Int)) = ((x + e : Nat) : Int) from by push_cast; rfl]
  exact Int.ofNat_tmod _ _
theorem grown_after {w w1 w2 : World} {g q : Nat} (h : w.grownBy w1 (some g)) (ho : Only q w1 w2) (hq : w.heap.size ≤ q) : w.grownBy w2 (some g) :=
  ⟨ho.os.trans h.os, ho.tape.trans h.tape, ho.output.trans h.output, by rw [ho.size]; exact h.size, fun k hk hne => (ho.block k (by omega)).trans (h.block k hk hne)⟩
theorem grown_drewN {w w1 : World} {r : Option Nat} {n : Nat} (h : w.grownBy w1 r) : w.grownBy (w1.drewN n) r := ⟨h.os, h.tape, h.output, h.size, h.block⟩
theorem grown_drew {w w1 : World} {r : Option Nat} (h : w.grownBy w1 r) : w.grownBy w1.drew r := ⟨h.os, h.tape, h.output, h.size, h.block⟩
theorem or_fin : ∀ i : Fin 4, ∀ b : Fin 8, ∀ c : Fin 2, b.val < 2 ^ i.val → bits .or .i64 (b.val : Int) (wrap64 ((c.val : Int) * 2 ^ i.val)) = ((b.val + c.val * 2 ^ i.val : Nat) : Int) := by decide +kernel
theorem or_part {b c i : Nat} (hi : i < 4) (hb : b < 2 ^ i) (hc : c < 2) : bits .or .i64 (b : Int) (wrap64 ((c : Int) * 2 ^ i)) = ((b + c * 2 ^ i : Nat) : Int) := by
  have h8 : (2 : Nat) ^ i ≤ 2 ^ 3 := Nat.pow_le_pow_right (by omega) (by omega)
  exact or_fin ⟨i, hi⟩ ⟨b, by omega⟩ ⟨c, hc⟩ hb
theorem bit_fin : ∀ i : Fin 4, ∀ v : Fin 16, bits .and .i64 ((v.val : Int) / 2 ^ i.val) 1 = ((bitN v.val i.val : Nat) : Int) := by decide +kernel
theorem bit_of {v i : Nat} (hi : i < 4) (hv : v < 16) : bits .and .i64 ((v : Int) / 2 ^ i) 1 = ((bitN v i : Nat) : Int) := bit_fin ⟨i, hi⟩ ⟨v, hv⟩
/-- A table's numbers. -/
def tN (tz : List Int) (b : Nat) : Nat := (tz.getD b 0).toNat

theorem Cells.grown {w w' : World} {a : Option Addr} {n g : Nat} {f : Nat → Value} (h : Cells w a n f) (hg : w.grownBy w' (some g)) (hne : ∀ b off, a = some ⟨b, off, none⟩ → b ≠ g) : Cells w' a n f := fun i hi => by
  obtain ⟨b, off, e, hlt, hc⟩ := h i hi
  refine ⟨b, off, e, Nat.lt_of_lt_of_le hlt hg.size, ?_⟩
  rw [World.cell?_of_block (hg.block b hlt (fun x => hne b off e (Option.some.inj x)))]
  exact hc
/-- A pattern's box. -/
def boxP (W H : Int) (a : Option Addr) (n c : Nat) : List Value := [.int .i64 W, .int .i64 H, .slice a n c]

end Bl
end Go.Proofs.YtgagophijmiceaaDoor
