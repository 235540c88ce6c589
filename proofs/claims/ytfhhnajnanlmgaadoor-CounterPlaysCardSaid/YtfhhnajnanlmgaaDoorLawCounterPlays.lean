/- THE LAW CounterPlays: its walk, out of its callees' contracts. -/
import Derived.Test.YtfhhnajnanlmgaaDoorCpR
import Derived.Test.YtfhhnajnanlmgaaDoorTold
namespace Go.Proofs.YtfhhnajnanlmgaaDoor
set_option linter.unusedSimpArgs false
set_option linter.unusedVariables false
open Go.RowKit
namespace Cp
open Tld Mem

theorem plays_err (f : Nat → Nat → Int) (m : Nat) : ∀ d n k, 0 ≤ (plays f m d n k).2.2 ∧ (plays f m d n k).2.2 ≤ 6
  | 0, n, k => by
    unfold plays
    cases step f m n <;> simp
  | d + 1, n, k => by
    unfold plays
    cases step f m n with
    | none => simp
    | some q =>
      dsimp only
      by_cases h : 4611686018427387904 < q
      · rw [if_pos h]; simp
      · rw [if_neg h]; exact plays_err f m d q (k + 1)

/-- Both give the same. -/
theorem both (sa : Option Addr) (m c : Nat) (f : Nat → Nat → Int) (n F : Int) (a : Addr) (w : World) (hm : m ≤ 9223372036854775807) (hF : Mem.Rows w sa m 2 (fun i j => .int .i64 (f i j))) (hf : ∀ i, i < m → f i 0 ≤ 9223372036854775807 ∧ f i 1 ≤ 9223372036854775807) (hn : n ≤ 9223372036854775807) (hS : Sent w a) :
    ∃ o1 o2 o3 : Int, (0 ≤ o3 ∧ o3 ≤ 6) ∧ (Calls Tryd.prog 5 #[.slice sa m c, .int .i64 n, .int .i64 F] w fun e w' => e = .returned (.tuple #[.int .i64 o1, .int .i64 o2, errV o3]) ∧ Below w.heap.size w w') ∧
      (∀ w2, Below w.heap.size w w2 → Calls Tryd.prog 6 #[.slice sa m c, .int .i64 n, .int .i64 F] w2 fun e w' => e = .returned (.tuple #[.int .i64 o1, .int .i64 o2, .int .i64 o3]) ∧ Below w2.heap.size w2 w') := by
  by_cases h1 : n < 1 ∨ F < 0 ∨ 100000 < F
  · exact ⟨0, 0, 1, ⟨by omega, by omega⟩, Play_bad1 sa m c n F w h1, fun w2 hb => Plays_bad1 sa m c n F w2 h1⟩
  obtain ⟨n', rfl⟩ : ∃ n' : Nat, n = n' := ⟨n.toNat, by omega⟩
  obtain ⟨F', rfl⟩ : ∃ F' : Nat, F = F' := ⟨F.toNat, by omega⟩
  by_cases hb : BadIn f m
  · refine ⟨0, 0, 1, ⟨by omega, by omega⟩, Play_bad2 sa m c f n' F' w hm hF (by omega) (by omega) (by omega) hb, fun w2 hb2 => ?_⟩
    refine (Plays_any sa m c f n' F' w2 hm (hF.below hb2 (Nat.le_refl _)) (by omega) (by omega) (by omega) (fun h => absurd hb h)).mono ?_
    rintro e w' ⟨⟨_, he⟩ | ⟨hno, _⟩, hb3⟩
    · exact ⟨he, hb3⟩
    · exact absurd hb hno
  · have hG := good_of hb hf
    refine ⟨_, _, _, plays_err f m F' n' 0, Play_ok sa m c f n' F' a w hm hF (by omega) (by omega) (by omega) hb hG hS, fun w2 hb2 => ?_⟩
    refine (Plays_any sa m c f n' F' w2 hm (hF.below hb2 (Nat.le_refl _)) (by omega) (by omega) (by omega) (fun _ => hG)).mono ?_
    rintro e w' ⟨⟨hyes, _⟩ | ⟨_, he⟩, hb3⟩
    · exact absurd hyes hb
    · exact ⟨he, hb3⟩

set_option maxHeartbeats 4000000 in
set_option maxRecDepth 1000000 in
theorem counterPlays_any (sa : Option Addr) (m c : Nat) (f : Nat → Nat → Int) (n F : Int) (a : Addr) (w : World) (hm : m ≤ 9223372036854775807) (hF : Mem.Rows w sa m 2 (fun i j => .int .i64 (f i j))) (hf : ∀ i, i < m → f i 0 ≤ 9223372036854775807 ∧ f i 1 ≤ 9223372036854775807) (hn : n ≤ 9223372036854775807) (hS : Sent w a) (hL : Tld.Laid w) :
    Calls Tryd.prog 3 #[.slice sa m c, .int .i64 n, .int .i64 F] w fun e w' => e = .returned (.bool true) ∧ Below w.heap.size w w' := by
  obtain ⟨o1, o2, o3, ⟨h0, h6⟩, hP, hR⟩ := both sa m c f n F a w hm hF hf hn hS
  have HP := Lib.hid hP
  have HR := Lib.hid hR
  have HL := Lib.hid hL
  clear hP hR hL hF hf hS
  go_enter Tryd.func3, Tryd.ntmps3
  go_wp2_with fail
  refine HP.out.mono ?_
  rintro e1 w1 ⟨rfl, hb1⟩
  have HB := Lib.hid hb1
  clear hb1
  go_wp2_with fail
  refine (HR.out w1 HB.out).mono ?_
  rintro e2 w2 ⟨rfl, hb2⟩
  have HB := Lib.hid (HB.out.trans (hb2.mono HB.out.size))
  clear hb2
  go_wp2_with fail
  refine (same_any o3 o3 w2 (HL.out.keep HB.out) (by omega) (by omega)).mono ?_
  rintro e3 w3 ⟨rfl, hb3⟩
  have HB := Lib.hid (HB.out.trans (hb3.mono HB.out.size))
  clear hb3
  rw [beq_self_eq_true]
  go_wp2_with fail
  go_ret
  exact ⟨by simp, HB.out⟩
end Cp
end Go.Proofs.YtfhhnajnanlmgaaDoor
