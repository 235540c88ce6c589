/- WALK: edenref1.Alike; the closed fact of the laws of planes. -/
import Derived.Test.YtgagophijmiceaaDoorPnV
import Derived.Test.YtgagophijmiceaaDoorInts
namespace Go.Proofs.YtgagophijmiceaaDoor
set_option linter.unusedSimpArgs false
set_option linter.unusedVariables false
open Go.RowKit Go.Lib
namespace Pn
open Tld Mem Bl

set_option maxHeartbeats 4000000 in
theorem alike_any (W1 H1 : Int) (a1 : Option Addr) (n1 c1 : Nat) (z1 : List Int) (W2 H2 : Int) (a2 : Option Addr) (n2 c2 : Nat) (z2 : List Int) (w : World) (h1 : Ints.Is w a1 n1 z1) (h2 : Ints.Is w a2 n2 z2) :
    Calls Tryd.prog 13 #[pat W1 H1 a1 n1 c1, pat W2 H2 a2 n2 c2] w fun e w' => e = .returned (.bool (decide (z1 = z2 ∧ W1 = W2 ∧ H1 = H2))) ∧ Below w.heap.size w w' := by
  have HI := Lib.hid (fun w2 : World => fun hb : Below w.heap.size w w2 => Ints.ints_any a1 a2 n1 n2 c1 c2 z1 z2 w2 (h1.keep hb) (h2.keep hb))
  clear h1 h2
  unfold pat
  obtain ⟨q, hq⟩ : ∃ q, q = decide (z1 = z2) := ⟨_, rfl⟩
  have HR : Hid (decide (z1 = z2 ∧ W1 = W2 ∧ H1 = H2) = (q && (decide (W1 = W2) && decide (H1 = H2)))) := by
    show _ = _
    rw [hq, Bool.decide_and, Bool.decide_and]
  rw [← hq] at HI
  clear hq
  have hd : q = false ∨ (q = true ∧ W1 ≠ W2) ∨ (q = true ∧ W1 = W2 ∧ H1 ≠ H2) ∨ (q = true ∧ W1 = W2 ∧ H1 = H2) := by
    cases q
    · exact .inl rfl
    · by_cases h1 : W1 = W2
      · by_cases h2 : H1 = H2
        · exact .inr (.inr (.inr ⟨rfl, h1, h2⟩))
        · exact .inr (.inr (.inl ⟨rfl, h1, h2⟩))
      · exact .inr (.inl ⟨rfl, h1⟩)
  obtain ⟨b, hb⟩ : ∃ b, b = (q && (decide (W1 = W2) && decide (H1 = H2))) := ⟨_, rfl⟩
  rw [← hb] at HR
  have HB := Lib.hid hb
  clear hb
  rcases hd with rfl | ⟨rfl, hw⟩ | ⟨rfl, rfl, hh⟩ | ⟨rfl, rfl, rfl⟩
  all_goals
    first | (have hw2 : (W1 == W2) = false := by rw [beq_eq_false_iff_ne]; exact hw) | skip
    first | (have hh2 : (H1 == H2) = false := by rw [beq_eq_false_iff_ne]; exact hh) | skip
    go_enter Tryd.func13, Tryd.ntmps13
    go_wp2_with fail
    refine (HI.out _ (((Below.refl _ _).alloc (Nat.le_refl _) _).alloc (by simp) _)).mono ?_
    rintro e1 w1 ⟨rfl, hb1⟩
    obtain ⟨hR2, hR3, hB⟩ := two_new w 35 35 (boxP _ _ a1 n1 c1) (boxP _ _ a2 n2 c2)
    have hR2' := hR2.keep hb1 hR2.lt
    have hR3' := hR3.keep hb1 hR3.lt
    have HBE := Lib.hid (hB.trans (hb1.mono hB.size))
    clear hR2 hR3 hb1 hB
    have f0 := hR2'.cell 0
    have f1 := hR2'.cell 1
    have g0 := hR3'.cell 0
    have g1 := hR3'.cell 1
    unfold boxP at f0 f1 g0 g1
    dsimp only [List.getElem?_cons_succ, List.getElem?_cons_zero] at f0 f1 g0 g1
    clear hR2' hR3'
    go_wp2_with fail
    go_ret
    refine ⟨?_, HBE.out⟩
    rw [HR.out, HB.out]
    simp [*]

def thr : Nat → Nat → Nat := fun _ _ => 1
end Pn
end Go.Proofs.YtgagophijmiceaaDoor
