/- ROWS OF TRUTHS: a slice of bools of the call's own. -/
import Derived.Test.YtjikildiblchpaaGfP
import Derived.BigRegion
namespace Go.Proofs.Ytjikildiblchpaa
set_option linter.unusedSimpArgs false
set_option linter.unusedVariables false
open Go.RowKit Go.Lib
namespace Rt
open Tld Mem

/-- A row of truths of the call's own: the first P are F. -/
structure VecB (w : World) (b P : Nat) (F : Nat → Bool) : Prop where
  row : ∃ cs, Row w b 4 cs ∧ ∀ k, k < P → cs[k]? = some (.bool (F k))
theorem VecB.cell {w : World} {b P : Nat} {F : Nat → Bool} (h : VecB w b P F) {k : Nat} (hk : k < P) : w.cell? ⟨b, k, none⟩ = some (.bool (F k)) := by
  obtain ⟨cs, hr, hc⟩ := h.row
  rw [hr.cell k]; exact hc k hk
theorem VecB.frozen {w : World} {b P : Nat} {F : Nat → Bool} (h : VecB w b P F) (k : Nat) : w.frozen? ⟨b, k, none⟩ = false := by
  obtain ⟨cs, hr, hc⟩ := h.row
  exact hr.frozen k
theorem VecB.lt {w : World} {b P : Nat} {F : Nat → Bool} (h : VecB w b P F) : b < w.heap.size := by
  obtain ⟨cs, hr, hc⟩ := h.row
  exact hr.lt
theorem VecB.congr {w : World} {b P : Nat} {F G : Nat → Bool} (h : VecB w b P F) (e : ∀ k, k < P → F k = G k) : VecB w b P G := by
  obtain ⟨cs, hr, hc⟩ := h.row
  exact ⟨⟨cs, hr, fun k hk => by rw [hc k hk, e k hk]⟩⟩
def updB (F : Nat → Bool) (i : Nat) (v : Bool) (k : Nat) : Bool := if k = i then v else F k
theorem updB_at {F : Nat → Bool} {i : Nat} {v : Bool} : updB F i v i = v := if_pos rfl
theorem updB_no {F : Nat → Bool} {i k : Nat} {v : Bool} (h : k ≠ i) : updB F i v k = F k := if_neg h
theorem VecB.set {w : World} {b P : Nat} {F : Nat → Bool} (h : VecB w b P F) {i : Nat} (hi : i < P) (v : Bool) : VecB (w.setCell ⟨b, i, none⟩ (.bool v)) b P (updB F i v) := by
  obtain ⟨cs, hr, hc⟩ := h.row
  refine ⟨⟨_, hr.set i (.bool v), fun k hk => ?_⟩⟩
  by_cases e : k = i
  · subst e
    have hl := (List.getElem?_eq_some_iff.1 (hc k hk)).1
    rw [List.getElem?_set_self hl, updB_at]
  · rw [List.getElem?_set_ne (fun h => e h.symm), updB_no e]; exact hc k hk
theorem VecB.other {w w' : World} {b c P : Nat} {F : Nat → Bool} (h : VecB w b P F) (k : Only c w w') (hne : b ≠ c) : VecB w' b P F := by
  obtain ⟨cs, hr, hc⟩ := h.row
  exact ⟨⟨cs, hr.other k hne, hc⟩⟩
theorem VecB.keep {w w' : World} {b B P : Nat} {F : Nat → Bool} (h : VecB w b P F) (k : Below B w w') (hlt : b < B) : VecB w' b P F := by
  obtain ⟨cs, hr, hc⟩ := h.row
  exact ⟨⟨cs, hr.keep k hlt, hc⟩⟩
theorem VecB.drewN {w : World} {b P : Nat} {F : Nat → Bool} (h : VecB w b P F) (n : Nat) : VecB (w.drewN n) b P F := by
  obtain ⟨cs, hr, hc⟩ := h.row
  exact ⟨⟨cs, hr.drewN n, hc⟩⟩
theorem infoBoolN : (Try.prog.info? 4).map (fun i => (i.zero, i.size, i.bytes)) = some (some (.bool false), 1, 1) := by kernel_rfl
theorem mk_bools (P : Nat) (hP : P ≤ 10) (w : World) : (Instr.makeSlice 42 (.int .i64 (P : Int)) (.int .i64 (P : Int))).run Try.prog w = .ok (.slice (some ⟨w.heap.size, 0, none⟩) P P) (w.alloc (.cells (Array.replicate P (Value.bool false)) 4)) := by
  obtain ⟨i0, hI0, hz0, hz1, hz2⟩ := info_parts infoBoolN
  have hr := run_make (P := Try.prog) w 42 4 i0 (.bool false) Try.underlying42 hI0 hz0 .i64 .i64 P P (by omega) (Int.le_refl _) (by rw [hz2]; omega) (by omega)
  rw [Int.toNat_natCast, hz1, Nat.mul_one, Ops.madeCells_one (.bool false) rfl, List.toArray_replicate] at hr
  exact hr
theorem vecB_made (w : World) (P : Nat) : VecB (w.alloc (.cells (Array.replicate P (Value.bool false)) 4)) w.heap.size P (fun _ => false) := by
  refine ⟨⟨List.replicate P (.bool false), ?_, fun k hk => ?_⟩⟩
  · rw [← List.toArray_replicate]; exact row_alloc w _ _
  · rw [List.getElem?_replicate, if_pos hk]
end Rt
end Go.Proofs.Ytjikildiblchpaa
