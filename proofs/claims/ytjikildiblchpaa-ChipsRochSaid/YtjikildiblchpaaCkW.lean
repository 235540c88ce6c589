/- WALK: chips.sum of any list, chips.wins. -/
import Derived.Test.YtjikildiblchpaaCkP
import Derived.Test.YtjikildiblchpaaCrM
namespace Go.Proofs.Ytjikildiblchpaa
set_option linter.unusedSimpArgs false
set_option linter.unusedVariables false
open Go.RowKit Go.Lib
namespace Ch
open Tld Mem Rt

theorem wrap_sum {zs : List Int} {p : Nat} (hp : p ≤ 10) (h : ∀ k, k < p → -1100 ≤ zs.getD k 0 ∧ zs.getD k 0 ≤ 1100) : wrap64 (sumZ (fun k => zs.getD k 0) p) = sumZ (fun k => zs.getD k 0) p := by
  have := sum_small (D := fun k => zs.getD k 0) h
  unfold wrap64
  omega
set_option maxHeartbeats 8000000 in
theorem csum_any (ca : Option Addr) (n cc : Nat) (zs : List Int) (w : World) (hC : Ints.Is w ca n zs) (hn : n ≤ 10) :
    Calls Try.prog 28 #[.slice ca n cc] w fun e w' => e = .returned (.int .i64 (wrap64 (sumZ (fun k => zs.getD k 0) n))) ∧ w' = w := by
  have HC := Lib.hid hC
  clear hC
  go_enter Try.func28, Try.ntmps28
  go_wp2_with fail
  go_loopw [2, 7] (fun z u wr => ∃ k : Nat, k ≤ n ∧ z = .int .i64 (wrap64 (sumZ (fun k => zs.getD k 0) k)) ∧ u = .int .i64 (k : Int) ∧ wr = w) (fun _ u _ => n - (intOf u).toNat)
  case atStart => exact ⟨0, Nat.zero_le _, (show Value.int .i64 0 = Value.int .i64 (wrap64 0) by rw [show wrap64 0 = 0 from by unfold wrap64; omega]), rfl, rfl⟩
  case round =>
    obtain ⟨k, hkn, rfl, rfl, rfl⟩ := hrel
    by_cases hk : k < n
    · have hk2 : (k : Int) < (n : Int) := by omega
      obtain ⟨bz, oz, rfl, _, hcz⟩ := HC.out.cells k hk
      dsimp only at hcz
      have HNX : Hid (wrap64 (sumZ (fun k => zs.getD k 0) (k + 1)) = wrap64 (wrap64 (sumZ (fun k => zs.getD k 0) k) + zs.getD k 0)) := by
        show _ = _
        rw [wrap_add]; rfl
      obtain ⟨s, hs⟩ : ∃ s, s = wrap64 (sumZ (fun k => zs.getD k 0) k) := ⟨_, rfl⟩
      rw [← hs] at HNX ⊢
      clear hs
      obtain ⟨x, hx⟩ : ∃ x, x = zs.getD k 0 := ⟨_, rfl⟩
      rw [← hx] at HNX hcz
      clear hx
      go_wp2_with fail
      go_roundw
      case rel => exact ⟨k + 1, by omega, by rw [HNX.out], by go_num, by trivial⟩
      case measure => simp [intOf]; omega
    · obtain rfl : k = n := by omega
      go_wp2_with fail
      go_ret
      exact ⟨rfl, rfl⟩

def WinPost (P : Nat) (E : Nat → Nat → Nat) (D : Nat → Int) (w : World) (e : Ending) (w' : World) : Prop := (∃ q : Bool, e = .returned (.bool q) ∧ (q = true ↔ Win P E D)) ∧ Below w.heap.size w w'
theorem win_post {P : Nat} {E : Nat → Nat → Nat} {D : Nat → Int} {w w' : World} (q : Bool) (h : q = true ↔ Win P E D) (hb : Below w.heap.size w w') : WinPost P E D w (.returned (.bool q)) w' := ⟨⟨q, rfl, h⟩, hb⟩
set_option maxHeartbeats 8000000 in
set_option maxRecDepth 1000000 in
theorem cwins_any (P : Nat) (E : Nat → Nat → Nat) (Dg : Nat → Nat) (bn : Nat) (da : Option Addr) (dc : Nat) (zs : List Int) (w0 w : World) (hG : Gr P E) (h0 : 0 < P) (hN : Net w0 bn P E Dg) (hB : Below w0.heap.size w0 w) (hD : Ints.Is w da P zs) (hz : ∀ k, k < P → -1100 ≤ zs.getD k 0 ∧ zs.getD k 0 ≤ 1100) :
    Calls Try.prog 31 #[.pointer (some ⟨bn, 0, none⟩), .slice da P dc] w (WinPost P E (fun k => zs.getD k 0) w) := by
  have hP := hG.p10
  have HS := Lib.hid (csum_any da P dc zs w hD hP)
  rw [wrap_sum hP hz] at HS
  have HR := Lib.hid (reduced_any P 0 E Dg bn da dc zs w0 w hG h0 hN hB hD hz)
  have HWS : Hid (Win P E (fun k => zs.getD k 0) → 0 ≤ sumZ (fun k => zs.getD k 0) P) := fun h => h.sum hG.sym
  clear hG hN hB hD hz
  obtain ⟨s, hs⟩ : ∃ s, s = sumZ (fun k => zs.getD k 0) P := ⟨_, rfl⟩
  rw [← hs] at HS HWS
  clear hs
  by_cases hs0 : 0 ≤ s
  · go_enter Try.func31, Try.ntmps31
    go_wp2_with fail
    refine HS.out.mono ?_
    rintro e1 w1 ⟨rfl, rfl⟩
    go_wp2_with fail
    refine HR.out.mono ?_
    rintro e1 w2 ⟨b, c, R, rfl, _, hv, he, hr, _, hx⟩
    have HQ : Hid (∀ q : Bool, (q = true ↔ 0 ≤ R 0) → (q = true ↔ Win P E fun k => zs.getD k 0)) := fun q hq => hq.trans (win_iff h0 he hr).symm
    have HB2 : Hid (Below w1.heap.size w1 w2) := hx
    have c1 := hv.cell h0
    clear hv he hr hx HS HR HWS
    generalize R 0 = r at *
    go_wp2_with fail
    go_ret
    exact win_post (decide (0 ≤ r)) (HQ.out _ decide_eq_true_iff) HB2.out
  · go_enter Try.func31, Try.ntmps31
    go_wp2_with fail
    refine HS.out.mono ?_
    rintro e1 w1 ⟨rfl, rfl⟩
    go_wp2_with fail
    go_ret
    exact win_post false ⟨fun h => (by cases h), fun h => absurd (HWS.out h) (by omega)⟩ (Below.refl _ _)
/-- What is won: so much taken from a divisor. -/
def Tak (P : Nat) (E : Nat → Nat → Nat) (zs : List Int) (e : Nat → Int) : Prop := Win P E fun k => zs.getD k 0 - e k
theorem Tak.congr {P : Nat} {E : Nat → Nat → Nat} {zs : List Int} {a b : Nat → Int} (g : ∀ k, k < P → a k = b k) (h : Tak P E zs a) : Tak P E zs b := Win.congr h fun k hk => by rw [g k hk]
end Ch
end Go.Proofs.Ytjikildiblchpaa
