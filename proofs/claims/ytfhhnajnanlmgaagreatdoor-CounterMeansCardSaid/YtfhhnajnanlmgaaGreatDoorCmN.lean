/- WALK: edenlaw4.number: a number by the powers of 2, 3, 5, 7, times q; 0: it is too great. -/
import Derived.Test.YtfhhnajnanlmgaaGreatDoorCmPl
import Derived.BigRegion
namespace Go.Proofs.YtfhhnajnanlmgaaGreatDoor
set_option linter.unusedSimpArgs false
set_option linter.unusedVariables false
open Go.RowKit
namespace Cm
open Tld Mem Cr Cp Rd

def partM (c : List Int) : Nat → Nat
  | 0 => 1
  | i + 1 => partM c i * P i ^ (c.getD i 0).toNat
theorem partM_four (c : List Int) : partM c 4 = Mz c := by
  show 1 * P 0 ^ _ * P 1 ^ _ * P 2 ^ _ * P 3 ^ _ = _
  rw [Nat.one_mul]; rfl
theorem partM_le (c : List Int) : ∀ i d, i + d ≤ 4 → partM c i ≤ partM c (i + d)
  | i, 0, _ => Nat.le_refl _
  | i, d + 1, h => Nat.le_trans (partM_le c i d (by omega)) (Nat.le_mul_of_pos_right _ (Nat.pow_pos (P_pos (show i + d < 28 by omega))))
theorem partM_pow {c : List Int} {i k : Nat} (hi : i < 4) (hk : k ≤ (c.getD i 0).toNat) : partM c i * P i ^ k ≤ Mz c := by
  have h1 : partM c (i + 1) ≤ partM c (i + 1 + (3 - i)) := partM_le c (i + 1) (3 - i) (by omega)
  rw [show i + 1 + (3 - i) = 4 by omega, partM_four] at h1
  exact Nat.le_trans (Nat.mul_le_mul_left _ (Nat.pow_le_pow_right (P_pos (by omega)) hk)) h1
/-- A number, or 0. -/
def numN (c : List Int) (q : Nat) : Nat := if Mz c * q ≤ 4611686018427387904 then Mz c * q else 0
theorem numN_big {c : List Int} {q n i k : Nat} (hi : i < 4) (hk : k < (c.getD i 0).toNat) (hn : n = partM c i * P i ^ k * q) (h : 4611686018427387904 / P i < n) : numN c q = 0 := by
  unfold numN
  rw [if_neg]
  intro hle
  have h1 := partM_pow hi (show k + 1 ≤ (c.getD i 0).toNat from hk)
  have h2 : partM c i * P i ^ (k + 1) * q ≤ Mz c * q := Nat.mul_le_mul_right _ h1
  have h3 := (Nat.div_lt_iff_lt_mul (P_pos (i := i) (by omega))).1 h
  rw [Nat.pow_succ, ← Nat.mul_assoc, Nat.mul_right_comm, ← hn] at h2
  omega
theorem numN_ok {c : List Int} {q n : Nat} (hn : n = partM c 4 * q) (h : n ≤ 4611686018427387904) : numN c q = n := by
  unfold numN
  rw [← partM_four, ← hn, if_pos h]
theorem go_on {c : List Int} {q n i k : Nat} (hi : i < 4) (hn : n = partM c i * P i ^ k * q) (h : ¬ 4611686018427387904 / P i < n) : n * P i = partM c i * P i ^ (k + 1) * q ∧ n * P i ≤ 4611686018427387904 := by
  refine ⟨by rw [hn, Nat.pow_succ, ← Nat.mul_assoc, Nat.mul_right_comm], ?_⟩
  rcases Nat.lt_or_ge 4611686018427387904 (n * P i) with h2 | h2
  · exact absurd ((Nat.div_lt_iff_lt_mul (P_pos (i := i) (by omega))).2 h2) h
  · exact h2
def pcs : List Value := [.int .i64 2, .int .i64 3, .int .i64 5, .int .i64 7]
theorem pcs_get {i : Nat} (hi : i < 4) : pcs[i]? = some (.int .i64 (P i : Nat)) := by
  match i, hi with
  | 0, _ => rfl
  | 1, _ => rfl
  | 2, _ => rfl
  | 3, _ => rfl
theorem P_small {i : Nat} (hi : i < 4) : 2 ≤ P i ∧ P i ≤ 7 := by
  have : ∀ i, i < 4 → 2 ≤ P i ∧ P i ≤ 7 := by decide +kernel
  exact this i hi

set_option maxHeartbeats 4000000 in
set_option maxRecDepth 1000000 in
theorem number_any (ca : Option Addr) (cc : Nat) (zs : List Int) (q : Nat) (w : World) (hZ : Ints.Is w ca 4 zs) (hR : InR zs) (hq : q ≤ 107) :
    Calls Tryz.prog 13 #[.slice ca 4 cc, .int .i64 q] w fun e w' => e = .returned (.int .i64 (numN zs q : Nat)) ∧ Below w.heap.size w w' := by
  have HZ := Lib.hid hZ
  have HR := Lib.hid hR
  have HQ := Lib.hid hq
  clear hZ hR hq
  go_enter Tryz.func13, Tryz.ntmps13
  go_wp2_with fail
  have hb0 : Below w.heap.size w (w.alloc (.cells #[.int .i64 2, .int .i64 3, .int .i64 5, .int .i64 7] 3)) := (Below.refl _ _).alloc (Nat.le_refl _) _
  have hr0 : Row (w.alloc (.cells #[.int .i64 2, .int .i64 3, .int .i64 5, .int .i64 7] 3)) w.heap.size 3 pcs := row_alloc w _ _
  have HB := Lib.hid hb0
  have HRW := Lib.hid hr0
  clear hb0 hr0
  generalize w.alloc (.cells #[.int .i64 2, .int .i64 3, .int .i64 5, .int .i64 7] 3) = w1 at *
  obtain ⟨b, hb⟩ : ∃ b, b = w.heap.size := ⟨_, rfl⟩
  rw [← hb] at HRW ⊢
  have HBE := Lib.hid hb
  clear hb
  go_loopw [5, 7] (fun u v wr => ∃ i n : Nat, i ≤ 4 ∧ v = .int .i64 (i : Nat) ∧ u = .int .i64 (n : Nat) ∧ n = partM zs i * q ∧ n ≤ 4611686018427387904 ∧ Row wr b 3 pcs ∧ Below w.heap.size w wr) (fun _ v _ => 4 - (RowKit.intOf v).toNat)
  case atStart => exact ⟨0, q, by omega, rfl, rfl, by unfold partM; rw [Nat.one_mul], by have := HQ.out; omega, HRW.out, HB.out⟩
  case round =>
    clear HRW HB
    obtain ⟨i, n, hi, rfl, rfl, hn, hle, hrw, hb⟩ := hrel
    have HN := Lib.hid hn
    have HLE := Lib.hid hle
    have HRW := Lib.hid hrw
    have HB := Lib.hid hb
    clear hn hle hrw hb
    by_cases hi4 : i < 4
    · have hi2 : (i : Int) < 4 := by omega
      have hcr := HR.out i hi4
      obtain ⟨ci, hci⟩ : ∃ ci : Nat, zs.getD i 0 = (ci : Int) := ⟨(zs.getD i 0).toNat, by omega⟩
      have hcn : (zs.getD i 0).toNat = ci := by omega
      have hcm : ci ≤ 1000000 := by omega
      have HCN := Lib.hid hcn
      have HCI := Lib.hid hci
      have HI4 := Lib.hid hi4
      clear hcr hci hcn hi4
      go_wp2_with fail
      obtain ⟨wo, rfl⟩ : ∃ wo : World, wo = wr := ⟨_, rfl⟩
      go_loopw [5, 8] (fun u v wr => ∃ k n : Nat, k ≤ ci ∧ v = .int .i64 (k : Nat) ∧ u = .int .i64 (n : Nat) ∧ n = partM zs i * P i ^ k * q ∧ n ≤ 4611686018427387904 ∧ Row wr b 3 pcs ∧ Below w.heap.size w wr) (fun _ v _ => ci - (RowKit.intOf v).toNat)
      case atStart => exact ⟨0, n, Nat.zero_le _, rfl, rfl, by rw [Nat.pow_zero, Nat.mul_one]; exact HN.out, HLE.out, HRW.out, HB.out⟩
      case round =>
        clear HN HLE HRW HB
        obtain ⟨k, n, hk, rfl, rfl, hn, hle, hrw, hb⟩ := hrel
        obtain ⟨g, off, rfl, hgl, hgc⟩ := (HZ.out.below hb (Nat.le_refl _)).cells i HI4.out
        dsimp only at hgc
        rw [HCI.out] at hgc
        have HN := Lib.hid hn
        have HLE := Lib.hid hle
        have HRW := Lib.hid hrw
        have HB := Lib.hid hb
        clear hn hle hrw hb hgl
        by_cases hkc : k < ci
        · have hk2 : (k : Int) < (ci : Int) := by omega
          have hpc : wr.cell? ⟨b, i, none⟩ = some (.int .i64 (P i : Nat)) := by rw [HRW.out.cell]; exact pcs_get HI4.out
          obtain ⟨h2p, h7p⟩ := P_small HI4.out
          obtain ⟨p, hp⟩ : ∃ p, p = P i := ⟨_, rfl⟩
          rw [← hp] at hpc h2p h7p
          have HP := Lib.hid hp
          obtain ⟨t, ht⟩ : ∃ t : Nat, t = 4611686018427387904 / p := ⟨_, rfl⟩
          have hp0 : ¬ (p : Int) = 0 := by omega
          have hp1 : ((p : Int) == 0) = false := beq_eq_false_iff_ne.2 hp0
          have hpm : ¬ (p : Int) = -1 := by omega
          have htd : (4611686018427387904 : Int).tdiv (p : Int) = (t : Int) := by rw [ht]; rfl
          have htd2 : (4611686018427387904 : Int) / (p : Int) = (t : Int) := by rw [ht]; rfl
          have ht62 : t ≤ 2305843009213693952 := by
            rw [ht]
            exact Nat.le_trans (Nat.div_le_div_left h2p (by omega)) (by decide)
          have htw : wrap64 (t : Int) = (t : Int) := by unfold wrap64; omega
          have HT := Lib.hid ht
          clear ht hp ht62
          have hle := HLE.out
          by_cases hbig : t < n
          · have t1 := @decide_eq_true ((t : Int) < (n : Int)) _ (by omega)
            have hbig2 : (t : Int) < (n : Int) := by omega
            have HE : Hid (numN zs q = 0) := numN_big HI4.out (by rw [HCN.out]; exact hkc) HN.out (by rw [← HP.out, ← HT.out]; exact hbig)
            clear hle
            go_wp2_with fail
            go_ret
            rw [HE.out]
            exact ⟨rfl, HB.out⟩
          · have t1 := @decide_eq_false ((t : Int) < (n : Int)) _ (by omega)
            have hbig2 : ¬ (t : Int) < (n : Int) := by omega
            have hgo := go_on HI4.out HN.out (by rw [← HP.out, ← HT.out]; exact hbig)
            rw [← HP.out] at hgo
            obtain ⟨x, hx⟩ : ∃ x, x = n * p := ⟨_, rfl⟩
            rw [← hx] at hgo
            have hxw : wrap64 ((n : Int) * (p : Int)) = (x : Int) := by
              have : ((n : Int) * (p : Int)) = (x : Int) := by rw [hx]; push_cast; rfl
              rw [this]
              unfold wrap64
              have := hgo.2
              omega
            have HG := Lib.hid hgo
            clear hle hgo hx
            go_wp2_with fail
            go_roundw
            case rel => exact ⟨k + 1, x, by omega, by go_num, congrArg (Value.int .i64) hxw, by rw [HG.out.1, HP.out], HG.out.2, HRW.out, HB.out⟩
            case measure => simp [RowKit.intOf]; omega
        · obtain rfl : k = ci := by omega
          have hnl : ¬ (k : Int) < (k : Int) := by omega
          go_wp2_with fail
          go_roundw
          case rel => exact ⟨i + 1, n, HI4.out, by go_num, rfl, by rw [HN.out, ← HCN.out]; rfl, HLE.out, HRW.out, HB.out⟩
          case measure => have := HI4.out; simp [RowKit.intOf]; omega
    · obtain rfl : i = 4 := by omega
      have HE : Hid (numN zs q = n) := numN_ok HN.out HLE.out
      go_wp2_with fail
      go_ret
      rw [HE.out]
      exact ⟨rfl, HB.out⟩
end Cm
end Go.Proofs.YtfhhnajnanlmgaaGreatDoor
