/- edenref1.Alike; blocks.Run of a grid, and where it fails. -/
import Derived.Test.YtmnefdcgknmnjaaDoorBlRF
namespace Go.Proofs.YtmnefdcgknmnjaaDoor
set_option linter.unusedSimpArgs false
set_option linter.unusedVariables false
open Go.RowKit Go.Lib
namespace Bl
open Tld Mem

theorem row_new (w : World) (W H : Int) (a : Option Addr) (n c : Nat) : Row (w.alloc (.cells #[.int .i64 W, .int .i64 H, .slice a n c] 24)) w.heap.size 24 (boxP W H a n c) ∧ Below w.heap.size w (w.alloc (.cells #[.int .i64 W, .int .i64 H, .slice a n c] 24)) :=
  ⟨row_alloc w _ _, (Below.refl _ _).alloc (Nat.le_refl _) _⟩
set_option maxHeartbeats 4000000 in
theorem alike_any (W1 H1 : Int) (a1 : Option Addr) (n1 c1 : Nat) (z1 : List Int) (W2 H2 : Int) (a2 : Option Addr) (n2 c2 : Nat) (z2 : List Int) (w : World) (h1 : Ints.Is w a1 n1 z1) (h2 : Ints.Is w a2 n2 z2) :
    Calls Tryd.prog 10 #[pat W1 H1 a1 n1 c1, pat W2 H2 a2 n2 c2] w fun e w' => e = .returned (.bool (decide (z1 = z2 ∧ W1 = W2 ∧ H1 = H2))) ∧ Below w.heap.size w w' := by
  have HI := Lib.hid (fun w2 : World => fun hb : Below w.heap.size w w2 => Ints.ints_any a1 a2 n1 n2 c1 c2 z1 z2 w2 (h1.keep hb) (h2.keep hb))
  clear h1 h2
  unfold pat
  obtain ⟨q, hq⟩ : ∃ q, q = decide (z1 = z2) := ⟨_, rfl⟩
  have HR : Hid (decide (z1 = z2 ∧ W1 = W2 ∧ H1 = H2) = (q && (decide (W1 = W2) && decide (H1 = H2)))) := by
    show _ = _
    rw [hq, Bool.decide_and, Bool.decide_and]
  rw [← hq] at HI
  clear hq
  have hd : q = false ∨ (q = true ∧ W1 ≠ W2) ∨ (q = true ∧ W1 = W2 ∧ H1 ≠ H2) ∨ (q = true ∧ W1 = W2 ∧ H1 = H2) := by
    cases q
    · exact .inl rfl
    · by_cases h1 : W1 = W2
      · by_cases h2 : H1 = H2
        · exact .inr (.inr (.inr ⟨rfl, h1, h2⟩))
        · exact .inr (.inr (.inl ⟨rfl, h1, h2⟩))
      · exact .inr (.inl ⟨rfl, h1⟩)
  obtain ⟨b, hb⟩ : ∃ b, b = (q && (decide (W1 = W2) && decide (H1 = H2))) := ⟨_, rfl⟩
  rw [← hb] at HR
  have HB := Lib.hid hb
  clear hb
  rcases hd with rfl | ⟨rfl, hw⟩ | ⟨rfl, rfl, hh⟩ | ⟨rfl, rfl, rfl⟩
  all_goals
    first | (have hw2 : (W1 == W2) = false := by rw [beq_eq_false_iff_ne]; exact hw) | skip
    first | (have hh2 : (H1 == H2) = false := by rw [beq_eq_false_iff_ne]; exact hh) | skip
    go_enter Tryd.func10, Tryd.ntmps10
    go_wp2_with fail
    refine (HI.out _ (((Below.refl _ _).alloc (Nat.le_refl _) _).alloc (by simp) _)).mono ?_
    rintro e1 w1 ⟨rfl, hb1⟩
    obtain ⟨hR2, hR3, hB⟩ := two_new w 24 24 (boxP _ _ a1 n1 c1) (boxP _ _ a2 n2 c2)
    have hR2' := hR2.keep hb1 hR2.lt
    have hR3' := hR3.keep hb1 hR3.lt
    have HBE := Lib.hid (hB.trans (hb1.mono hB.size))
    clear hR2 hR3 hb1 hB
    have f0 := hR2'.cell 0
    have f1 := hR2'.cell 1
    have g0 := hR3'.cell 0
    have g1 := hR3'.cell 1
    unfold boxP at f0 f1 g0 g1
    dsimp only [List.getElem?_cons_succ, List.getElem?_cons_zero] at f0 f1 g0 g1
    clear hR2' hR3'
    go_wp2_with fail
    go_ret
    refine ⟨?_, HBE.out⟩
    rw [HR.out, HB.out]
    simp [*]
theorem flat_01 {W H : Nat} {c : Nat → Nat → Nat} (h : ∀ x y, c x y < 2) : ∀ z ∈ flat W H c, z = 0 ∨ z = 1 := fun z hz => by
  unfold flat at hz
  obtain ⟨k, _, rfl⟩ := List.mem_map.1 hz
  have := h (k % W) (k / W)
  omega
theorem run_congr {t : Nat → Nat} {W H ph : Nat} {c d : Nat → Nat → Nat} (hW : W % 2 = 0) (hH : H % 2 = 0) (h : ∀ x y, x < W → y < H → c x y = d x y) : ∀ n x y, x < W → y < H → run t W H ph c n x y = run t W H ph d n x y
  | 0, x, y, hx, hy => h x y hx hy
  | n + 1, x, y, hx, hy => cellN_congr hW hH (by omega) (fun x y hx hy => run_congr hW hH h n x y hx hy) hx hy
theorem pfault_flat {W H : Nat} {c : Nat → Nat → Nat} (hW : W ≤ 100) (hH : H ≤ 100) (h : ∀ x y, c x y < 2) : pfault W H (flat W H c) = 0 := by
  unfold pfault
  rw [if_neg (by unfold okSides; omega), if_neg (by rw [flat_len]; push_cast; simp), if_neg]
  rw [Bool.not_eq_true, List.any_eq_false]
  intro z hz
  have := flat_01 h z hz
  unfold cbad
  simp
  omega
theorem rfault_ok {tz : List Int} {W H : Nat} {c : Nat → Nat → Nat} {ph m : Nat} (ht : tfault tz = 0) (hW : W ≤ 100) (hH : H ≤ 100) (hW2 : W % 2 = 0) (hH2 : H % 2 = 0) (h : ∀ x y, c x y < 2) (hph : ph ≤ 1) (hm : m ≤ 100000) : rfault tz W H (flat W H c) ph m = 0 := by
  unfold rfault
  rw [if_neg (by simp [ht]), if_neg (by simp [pfault_flat hW hH h]), if_neg (by omega), if_neg (by omega)]
/-- Run and Turn of a grid. -/
theorem run_flat (ta : Option Addr) (tn tc : Nat) (tz : List Int) (W H : Nat) (a : Option Addr) (n c : Nat) (cf : Nat → Nat → Nat) (ph m : Nat) (w : World) (hT : Ints.Is w ta tn tz) (ht : tfault tz = 0) (hP : Ints.Is w a n (flat W H cf)) (hnil : a = none → n = 0) (hn : n = W * H)
    (hW : W ≤ 100) (hH : H ≤ 100) (hW2 : W % 2 = 0) (hH2 : H % 2 = 0) (hc : ∀ x y, cf x y < 2) (hph : ph ≤ 1) (hm : m ≤ 100000) :
    Calls Tryd.prog 8 #[.slice ta tn tc, .agg #[.int .i64 W, .int .i64 H, .slice a n c], .int .i64 ph, .int .i64 m] w fun e w' =>
      (∃ a' c', e = .returned (.tuple #[.agg #[.int .i64 W, .int .i64 H, .slice a' n c'], .nilIface]) ∧ (a' = none → n = 0) ∧ Ints.Is w' a' n (flat W H (run (tN tz) W H ph cf m))) ∧ Below w.heap.size w w' := by
  have hf : rfault tz W H (flat W H cf) ph m = 0 := rfault_ok ht hW hH hW2 hH2 hc hph hm
  have hn1 : W * H ≤ maxLen := by
    have : W * H ≤ 100 * 100 := Nat.mul_le_mul hW hH
    unfold maxLen; omega
  refine (run_any ta tn tc tz W H a n c (flat W H cf) ph m w hT hP hnil).mono ?_
  rintro e w' ⟨⟨h1, _⟩ | ⟨_, a', c', g, rfl, _, h3, h4⟩, h5⟩
  · exact absurd hf h1
  · refine ⟨⟨a', c', rfl, h3, ?_⟩, h5⟩
    simp only [Int.toNat_natCast] at h4
    have h6 := h4.is hn1
    rw [← hn, flat_congr (d := run (tN tz) W H ph cf m) (fun x y hx hy => run_congr hW2 hH2 (fun x y hx hy => cel_flat hx hy) m x y hx hy)] at h6
    exact h6
theorem run_faultF (ta : Option Addr) (tn tc : Nat) (tz : List Int) (W H : Int) (a : Option Addr) (n c : Nat) (zs : List Int) (ph m F : Int) (w : World) (hT : Ints.Is w ta tn tz) (hP : Ints.Is w a n zs) (hF : rfault tz W H zs ph m = F) (h0 : F ≠ 0) :
    Calls Tryd.prog 8 #[.slice ta tn tc, .agg #[.int .i64 W, .int .i64 H, .slice a n c], .int .i64 ph, .int .i64 m] w fun e w' => e = .returned (.tuple #[.agg #[.int .i64 0, .int .i64 0, .slice none 0 0], .iface 43 (.int .i64 F)]) ∧ Below w.heap.size w w' := by
  have hl1 := hT.le
  have hl2 := hP.le
  unfold maxLen at hl1 hl2
  refine (run_fault ta tn tc tz W H a n c zs ph m w hT.cells hT.len (by omega) hP.cells hP.len (by omega) (by rw [hF]; exact h0)).mono ?_
  rintro e w' ⟨rfl, hb⟩
  rw [hF, errV_some h0]
  exact ⟨rfl, hb⟩
theorem alike_none (w : World) : Calls Tryd.prog 10 #[.agg #[.int .i64 0, .int .i64 0, .slice none 0 0], .agg #[.int .i64 0, .int .i64 0, .slice none 0 0]] w fun e w' => e = .returned (.bool true) ∧ Below w.heap.size w w' := by
  refine (alike_any 0 0 none 0 0 [] 0 0 none 0 0 [] w (Ints.Is.nil w) (Ints.Is.nil w)).mono ?_
  rintro e w' ⟨rfl, hb⟩
  exact ⟨rfl, hb⟩
theorem alike_flatE (W H : Nat) (a1 : Option Addr) (n c1 : Nat) (z1 : List Int) (a2 : Option Addr) (c2 : Nat) (z2 : List Int) (w : World) (h1 : Ints.Is w a1 n z1) (h2 : Ints.Is w a2 n z2) (e : z1 = z2) :
    Calls Tryd.prog 10 #[.agg #[.int .i64 W, .int .i64 H, .slice a1 n c1], .agg #[.int .i64 W, .int .i64 H, .slice a2 n c2]] w fun e w' => e = .returned (.bool true) ∧ Below w.heap.size w w' := by
  refine (alike_any W H a1 n c1 z1 W H a2 n c2 z2 w h1 h2).mono ?_
  rintro e' w' ⟨rfl, hb⟩
  refine ⟨?_, hb⟩
  rw [show decide (z1 = z2 ∧ (W : Int) = W ∧ (H : Int) = H) = true from by simp [e]]
theorem tfault_bd (tz : List Int) : -1000 ≤ tfault tz ∧ tfault tz ≤ 1000 := by unfold tfault; split; · omega
                                                                               split <;> omega
theorem pfault_bd (W H : Int) (zs : List Int) : -1000 ≤ pfault W H zs ∧ pfault W H zs ≤ 1000 := by
  unfold pfault
  split
  · omega
  · split
    · omega
    · split <;> omega
end Bl
end Go.Proofs.YtmnefdcgknmnjaaDoor
