/- MEMORY OF PLANES: rows of numbers by a function; boxes of patterns; results in a cell. -/
import Derived.Test.YtgagophijmiceaaDoorPnB
import Derived.Test.YtgagophijmiceaaDoorInts
import Derived.Maps.AppendAt
import Derived.Lib.SliceRun
import Derived.OwnWalk
import Derived.BigRegion
import Derived.Deep.MidRow
namespace Go.Proofs.YtgagophijmiceaaDoor
set_option linter.unusedSimpArgs false
set_option linter.unusedVariables false
open Go.RowKit
namespace Pn
open Tld Mem Bl

theorem infoPat : (Tryd.prog.info? 35).map (·.size) = some 3 := by kernel_rfl
/-- A row of numbers of the call's own: the first P are F. -/
structure Vec (w : World) (b P : Nat) (F : Nat → Nat) : Prop where
  row : ∃ cs, Row w b 3 cs ∧ ∀ k, k < P → cs[k]? = some (.int .i64 (F k : Nat))
theorem Vec.cell {w : World} {b P : Nat} {F : Nat → Nat} (h : Vec w b P F) {k : Nat} (hk : k < P) : w.cell? ⟨b, k, none⟩ = some (.int .i64 (F k : Nat)) := by
  obtain ⟨cs, hr, hc⟩ := h.row
  rw [hr.cell k]; exact hc k hk
theorem Vec.frozen {w : World} {b P : Nat} {F : Nat → Nat} (h : Vec w b P F) (k : Nat) : w.frozen? ⟨b, k, none⟩ = false := by
  obtain ⟨cs, hr, hc⟩ := h.row
  exact hr.frozen k
theorem Vec.lt {w : World} {b P : Nat} {F : Nat → Nat} (h : Vec w b P F) : b < w.heap.size := by
  obtain ⟨cs, hr, hc⟩ := h.row
  exact hr.lt
theorem Vec.congr {w : World} {b P : Nat} {F G : Nat → Nat} (h : Vec w b P F) (e : ∀ k, k < P → G k = F k) : Vec w b P G := by
  obtain ⟨cs, hr, hc⟩ := h.row
  exact ⟨⟨cs, hr, fun k hk => by rw [hc k hk, e k hk]⟩⟩
theorem Vec.set {w : World} {b P : Nat} {F G : Nat → Nat} (h : Vec w b P F) {i v : Nat} (hi : i < P) (hG : ∀ k, k < P → k ≠ i → G k = F k) (hv : G i = v) : Vec (w.setCell ⟨b, i, none⟩ (.int .i64 (v : Nat))) b P G := by
  obtain ⟨cs, hr, hc⟩ := h.row
  refine ⟨⟨_, hr.set i (.int .i64 (v : Nat)), fun k hk => ?_⟩⟩
  by_cases e : k = i
  · subst e
    have hl := (List.getElem?_eq_some_iff.1 (hc k hk)).1
    rw [List.getElem?_set_self hl, hv]
  · rw [List.getElem?_set_ne (fun h => e h.symm), hG k hk e]; exact hc k hk
theorem Vec.other {w w' : World} {b c P : Nat} {F : Nat → Nat} (h : Vec w b P F) (k : Only c w w') (hne : b ≠ c) : Vec w' b P F := by
  obtain ⟨cs, hr, hc⟩ := h.row
  exact ⟨⟨cs, hr.other k hne, hc⟩⟩
theorem Vec.keep {w w' : World} {b P : Nat} {F : Nat → Nat} (h : Vec w b P F) (k : Below w.heap.size w w') : Vec w' b P F := by
  obtain ⟨cs, hr, hc⟩ := h.row
  exact ⟨⟨cs, hr.keep k hr.lt, hc⟩⟩
theorem Vec.drewN {w : World} {b P : Nat} {F : Nat → Nat} (h : Vec w b P F) (n : Nat) : Vec (w.drewN n) b P F := by
  obtain ⟨cs, hr, hc⟩ := h.row
  exact ⟨⟨cs, hr.drewN n, hc⟩⟩
theorem vec_made {w : World} {b P : Nat} (h : Row w b 3 (List.replicate P (.int .i64 0))) : Vec w b P fun _ => 0 :=
  ⟨⟨_, h, fun k hk => by rw [List.getElem?_replicate, if_pos hk]; rfl⟩⟩
def lstN (P : Nat) (F : Nat → Nat) : List Int := (List.range P).map fun k => ((F k : Nat) : Int)
theorem lstN_len {P : Nat} {F : Nat → Nat} : (lstN P F).length = P := by simp [lstN]
theorem lstN_get {P k : Nat} {F : Nat → Nat} (h : k < P) : (lstN P F).getD k 0 = ((F k : Nat) : Int) := by
  simp [lstN, List.getD_eq_getElem?_getD, List.getElem?_range h]
theorem Vec.is {w : World} {b P : Nat} {F : Nat → Nat} (h : Vec w b P F) (hP : P ≤ maxLen) : Ints.Is w (some ⟨b, 0, none⟩) P (lstN P F) where
  len := lstN_len
  cells := fun i hi => ⟨b, 0, rfl, h.lt, by rw [Nat.zero_add]; dsimp only; rw [lstN_get hi]; exact h.cell hi⟩
  le := hP

theorem lstN_flat {W H : Nat} {c : Nat → Nat → Nat} : lstN (W * H) (fun k => c (k % W) (k / W)) = flat W H c := rfl
/-- A row of the call's own is a pattern's cells. -/
theorem Vec.flat {w : World} {b W H n : Nat} {c : Nat → Nat → Nat} (h : Vec w b n fun k => c (k % W) (k / W)) (hn : n = W * H) (hP : n ≤ maxLen) : Ints.Is w (some ⟨b, 0, none⟩) n (Bl.flat W H c) := by
  subst hn
  exact h.is hP
theorem two_new (w : World) (T U : TypeId) (c1 c2 : List Value) : Row ((w.alloc (.cells c1.toArray T)).alloc (.cells c2.toArray U)) w.heap.size T c1 ∧ Row ((w.alloc (.cells c1.toArray T)).alloc (.cells c2.toArray U)) (w.heap.size + 1) U c2 ∧ Below w.heap.size w ((w.alloc (.cells c1.toArray T)).alloc (.cells c2.toArray U)) := by
  refine ⟨?_, ?_, ((Below.refl _ _).alloc (Nat.le_refl _) _).alloc (by simp) _⟩
  · exact (row_alloc w T c1).keep ((Below.refl _ _).alloc (Nat.le_refl _) (.cells c2.toArray U)) (by simp)
  · have := row_alloc (w.alloc (.cells c1.toArray T)) U c2
    rwa [World.size_alloc] at this
theorem row_range {w : World} {b : Nat} {T : TypeId} {cs : List Value} (h : Row w b T cs) : w.rangeAt b 0 cs := fun j v hv => by
  rw [Nat.zero_add, h.cell, hv]
theorem boxP_one (W H : Int) (a : Option Addr) (n c : Nat) : ∀ v ∈ boxP W H a n c, v.oneCell' = true := by simp [boxP, Value.oneCell']
theorem infoIntV : (Tryd.prog.info? 3).map (fun i => (i.zero, i.size, i.bytes)) = some (some (.int .i64 0), 1, 8) := by kernel_rfl
/-- A function whose results are a pattern in a cell and an error. -/
theorem results_pat {fn : Func} {t u : Tmp} (hr : fn.results = #[.cell t 35, .tmp u]) (tmps : Array Value) (w : World) {q : Nat} {V : List Value} {e : Value} (h : Row w q 35 V) (hV : V.length = 3) (h8 : tmps.getD t undef = .pointer (some ⟨q, 0, none⟩)) (h9 : tmps.getD u undef = e) :
    (results fn tmps).run Tryd.prog w = .ok (.tuple #[.agg V.toArray, e]) w := by
  have hl := run_loadVar_row (P := Tryd.prog) w q 35 35 V.toArray (0, 0) _ h Tryd.underlying35 rfl (by rw [List.size_toArray, hV]; exact infoPat)
  have h8' : tmps[t]?.getD undef = .pointer (some ⟨q, 0, none⟩) := by simpa using h8
  have h9' : tmps[u]?.getD undef = e := by simpa using h9
  simp [results, hr, h8', h9', asAddr, hl]
theorem results_pat1 {fn : Func} {t : Tmp} (hr : fn.results = #[.cell t 35]) (tmps : Array Value) (w : World) {q : Nat} {V : List Value} (h : Row w q 35 V) (hV : V.length = 3) (h8 : tmps.getD t undef = .pointer (some ⟨q, 0, none⟩)) :
    (results fn tmps).run Tryd.prog w = .ok (.agg V.toArray) w := by
  have hl := run_loadVar_row (P := Tryd.prog) w q 35 35 V.toArray (0, 0) _ h Tryd.underlying35 rfl (by rw [List.size_toArray, hV]; exact infoPat)
  have h8' : tmps[t]?.getD undef = .pointer (some ⟨q, 0, none⟩) := by simpa using h8
  simp [results, hr, h8', asAddr, hl]
end Pn
end Go.Proofs.YtgagophijmiceaaDoor
