/- GrowSquares: for every text, grow.Square and grow.Overlap answer as the reference's search does; no condition. -/
import Derived.Test.YthggpjpmjhaidaaRows
import Derived.Test.YthggpjpmjhaidaaSqW
import Derived.WalkKit
import Derived.ProofKit
import Derived.OpenShut
import Derived.ShutString
namespace Go.Proofs.Ythggpjpmjhaidaa.growSquares
open Go.ChangeShapes Go.WideShapes Go.ChangeAt Go.RowKit
open Go.ChangeMaps (open_string shut_string)
set_option linter.unusedVariables false

theorem own : ownKnob Try.prog.godebug = none := by kernel_rfl

theorem grown_drew {w w' : World} (h : Sq.Drew w w') : Grown w w' := by
  obtain ⟨k, rfl⟩ := h
  exact ⟨(World.keptBut_refl w _).alike (World.drewN_alike w k), fun _ => rfl, Nat.le_refl _⟩

set_option maxHeartbeats 1000000 in
theorem walk (s : ByteArray) (w : World) :
    Calls Try.prog 3 #[.string s] w fun e w' => e = .returned (.bool true) ∧ Grown w w' := by
  go_enter Try.func3, Try.ntmps3
  go_wp2_with (fail)
  refine (Sq.square_any _ _).mono ?_
  rintro e1 w1 ⟨rfl, d1⟩
  unfold Sq.frv
  go_wp2_with (fail)
  refine (Sq.repeat_any _ 0 _ (by omega)).mono ?_
  rintro e2 w2 ⟨rfl, d2⟩
  unfold Sq.frv
  go_wp2_with (fail)
  refine (Sq.overlap_any _ _).mono ?_
  rintro e3 w3 ⟨rfl, d3⟩
  unfold Sq.frv
  go_wp2_with (fail)
  refine (Sq.repeat_any _ 1 _ (by omega)).mono ?_
  rintro e4 w4 ⟨rfl, d4⟩
  unfold Sq.frv
  go_wp2_with (fail)
  go_ret
  exact ⟨rfl, grown_drew (((d1.trans d2).trans d3).trans d4)⟩

/-! ### THE ROW's STEP: WRITTEN OUT: LEAVE IT -/
set_option maxRecDepth 100000 in
theorem lifted (os : Os) (started : os.Started) (H : Type) (enc : TypeId × Value → H) :
    ReturnsInHanded {} Try.checked os 3 .any (Rows.growSquaresSpec.pre6 enc Try.prog Try.f3 Rows.growSquaresRow.domain false) (Rows.growSquaresSpec.post enc Try.prog Try.f3 false true false false) := by
  refine returnsInHanded_of_change (C := Try.checked) own started (by kernel_rfl) Try.func3
    (ChangeSpec.witness6 (enc := enc) (C := Try.checked) false ⟨#[], #[.string ByteArray.empty], []⟩ 8 (by kernel_rfl) (by kernel_rfl) (by kernel_rfl) (by kernel_rfl)) ?_
  intro W base args ds gs before hval0 hW hcnd _
  have hval : ∀ (j : Nat) t v, Try.f3.params[j]? = some t → args[j]? = some v → Value.okWide Try.prog W .any base t v := hval0
  have hW' := hW
  obtain ⟨p, q, hA0, hV, rfl, hfz, hnd⟩ := hW
  have hA : DataW.TrodAll enc Try.prog W 0 (fun _ => true) true Try.f3.params.toList args.toList ds p := hA0
  rw [Try.params3] at hA hval
  obtain ⟨v0, vs0, d0, ds0, p0, q0, hargs, rfl, rfl, h0, r0⟩ := trodAll_cons hA
  obtain ⟨rfl, rfl, rfl⟩ := trodAll_nil r0
  obtain rfl : args = #[v0] := by cases args; simp_all
  obtain ⟨rfl, rfl⟩ := trodVars_none hV
  obtain ⟨a0, rfl, rfl, rfl, w0⟩ := open_string Try.underlying9 (hval 0 9 v0 rfl rfl) h0
  clear hA0 hval0
  simp only [List.append_nil] at hW'
  refine (walk a0 W).mono fun e W' ⟨he, hg⟩ => ?_
  subst he
  exact ⟨_, rfl, post_of_same (pa := []) (pv := []) hW' (fun _ _ _ => (trodAll_cons_mk (shut_bool Try.underlying4 _) trodAll_mk0)) (fun sp _ => (trodAll_cons_mk (shut_string Try.underlying9 w0) trodAll_mk0)) (fun _ _ => rfl) rfl
    (hg.frame _) hg.2.1 (ok_one (by kernel_rfl) rfl (okWide_bool_mk Try.underlying4 _))⟩

theorem over : Rows.growSquaresRow.holds Try.pinned (OpenSpec.ofChange Rows.growSquaresSpec) :=
  OpenClaim.holds_of_wide 3 Try.f3 rfl rfl rfl rfl rfl rfl rfl ⟨rfl, rfl, rfl, rfl, rfl⟩ rfl rfl rfl rfl rfl (by kernel_rfl) Try.func3 (by kernel_rfl)
    (of_decide_eq_true (by kernel_rfl)) (by unfold Func.isWrapper; first | (rw [if_pos (by decide +kernel)]; kernel_rfl) | (rw [if_neg (by decide +kernel)]; exact ⟨rfl, rfl⟩))
    (fun os started H enc _ => lifted os started H enc)

/-- ████ THE STATEMENT ████ -/
theorem proved : Rows.GrowSquaresSaid :=
  over
#print axioms proved
end Go.Proofs.Ythggpjpmjhaidaa.growSquares
