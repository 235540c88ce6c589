/- WALK: edenref1.Digits below 100. -/
import Derived.Test.YtfhhnajnanlmgaaDoorCrO
namespace Go.Proofs.YtfhhnajnanlmgaaDoor
set_option linter.unusedSimpArgs false
set_option linter.unusedVariables false
open Go.RowKit
namespace Cr
open Tld Mem

def dig1 (n : Nat) : List UInt8 := if n < 10 then [UInt8.ofNat (48 + n)] else [UInt8.ofNat (48 + n / 10), UInt8.ofNat (48 + n % 10)]

theorem cells1 (w : World) (T : TypeId) (c : UInt8) (v : Int) (hv : v = (c.toNat : Int)) : Mem.Cells (w.alloc (.cells #[.int .u8 v] T)) (some ⟨w.heap.size, 0, none⟩) (ByteArray.mk #[c]).size (fun i => .int .u8 ((((ByteArray.mk #[c]).data.toList.getD i 0).toNat : Nat) : Int)) := by
  intro i hi
  have h0 : i = 0 := by
    have : (ByteArray.mk #[c]).size = 1 := rfl
    omega
  subst h0
  have hr := row_alloc w T [.int .u8 v]
  refine ⟨w.heap.size, 0, rfl, hr.lt, ?_⟩
  have hc := hr.cell 0
  dsimp only [List.getElem?_cons_zero] at hc
  rw [Nat.add_zero]
  refine hc.trans ?_
  rw [hv]
  rfl
theorem byte_of {d : Nat} (hd : d < 10) : (48 + (d : Int)) = (((UInt8.ofNat (48 + d)).toNat : Nat) : Int) := by
  have : (UInt8.ofNat (48 + d)).toNat = 48 + d := by
    rw [UInt8.toNat_ofNat']
    omega
  rw [this]
  push_cast
  rfl

set_option maxHeartbeats 4000000 in
set_option maxRecDepth 1000000 in
theorem digits_any (n : Nat) (hn : n < 100) (w : World) : Calls Tryd.prog 36 #[.int .i64 n] w fun e w' => e = .returned (.string ⟨(dig1 n).toArray⟩) ∧ Below w.heap.size w w' := by
  obtain ⟨d, hd⟩ : ∃ d, d = n % 10 := ⟨_, rfl⟩
  have ed : (n : Int) % 10 = (d : Int) := by omega
  have ed2 : (n : Int).tmod 10 = (d : Int) := by rw [Int.tmod_eq_emod_of_nonneg (by omega)]; omega
  have hd9 : d < 10 := by omega
  obtain ⟨c, hc⟩ : ∃ c, c = UInt8.ofNat (48 + d) := ⟨_, rfl⟩
  have HB : Hid (Below w.heap.size w (w.alloc (.cells #[.int .u8 (48 + (d : Int))] 5))) := Lib.hid ((Below.refl _ _).alloc (Nat.le_refl _) _)
  have HC := Lib.hid (cells1 w 5 c (48 + (d : Int)) (by rw [hc]; exact byte_of hd9))
  have hneg : decide ((n : Int) < 0) = false := decide_eq_false (by omega)
  by_cases h10 : n < 10
  · have e1 : decide ((10 : Int) ≤ (n : Int)) = false := decide_eq_false (by omega)
    have e2 : decide (10 ≤ n) = false := decide_eq_false (by omega)
    have hdn : d = n := by omega
    have HD : Hid (dig1 n = [c]) := Lib.hid (by unfold dig1; rw [if_pos h10, hc, hdn])
    clear hd hdn h10 hc
    go_enter Tryd.func36, Tryd.ntmps36
    go_upto_region 7 with (refine Ops.wpList_string rfl 62 9 5 _ rfl Tryd.underlying62 Tryd.underlying5 Tryd.underlying9 _ 1 ⟨#[c]⟩ rfl HC.out (by simp) ?_)
    clear HC
    generalize w.alloc (.cells #[.int .u8 (48 + (d : Int))] 5) = w1 at *
    go_wp2_with fail
    refine wp_loop_rounds 1 ?_
    rw [rounds_succ]
    go_wp2_with fail
    go_ret
    exact ⟨by rw [HD.out]; rfl, HB.out⟩
  · have e1 : decide ((10 : Int) ≤ (n : Int)) = true := decide_eq_true (by omega)
    have e2 : decide (10 ≤ n) = true := decide_eq_true (by omega)
    obtain ⟨q, hq⟩ : ∃ q, q = n / 10 := ⟨_, rfl⟩
    have hq9 : q < 10 := by omega
    have eq1 : (n : Int).tdiv 10 = (q : Int) := by rw [Int.tdiv_eq_ediv_of_nonneg (by omega)]; omega
    have eq2 : (n : Int) / 10 = (q : Int) := by omega
    have eq3 : (q : Int) % 10 = (q : Int) := by omega
    have e3 : decide ((10 : Int) ≤ (q : Int)) = false := decide_eq_false (by omega)
    have e4 : decide (10 ≤ q) = false := decide_eq_false (by omega)
    obtain ⟨c2, hc2⟩ : ∃ c, c = UInt8.ofNat (48 + q) := ⟨_, rfl⟩
    have hdn : n % 10 = d := by omega
    have HD : Hid (dig1 n = [c2, c]) := Lib.hid (by unfold dig1; rw [if_neg h10, hc, hc2, hq, hd])
    have hb2 := byte_of hq9
    rw [← hc2] at hb2
    have HB2 := Lib.hid hb2
    clear hd hdn h10 hc hq hc2 hb2
    go_enter Tryd.func36, Tryd.ntmps36
    go_upto_region 7 with (refine Ops.wpList_string rfl 62 9 5 _ rfl Tryd.underlying62 Tryd.underlying5 Tryd.underlying9 _ 1 ⟨#[c]⟩ rfl HC.out (by simp) ?_)
    clear HC
    generalize w.alloc (.cells #[.int .u8 (48 + (d : Int))] 5) = w1 at *
    have HC2 := Lib.hid (cells1 w1 5 c2 (48 + (q : Int)) HB2.out)
    have HBB : Hid (Below w.heap.size w (w1.alloc (.cells #[.int .u8 (48 + (q : Int))] 5))) := Lib.hid (HB.out.trans (((Below.refl w1.heap.size w1).alloc (Nat.le_refl _) _).mono HB.out.size))
    go_wp2_with fail
    refine wp_loop_rounds 2 ?_
    rw [rounds_succ]
    go_wp2_with (refine Ops.wpList_string rfl 62 9 5 _ rfl Tryd.underlying62 Tryd.underlying5 Tryd.underlying9 _ 1 ⟨#[c2]⟩ rfl HC2.out (by simp) ?_; clear HC2)
    generalize w1.alloc (.cells #[.int .u8 (48 + (q : Int))] 5) = w2 at *
    rw [rounds_succ]
    go_wp2_with fail
    go_ret
    exact ⟨by rw [HD.out]; rfl, HBB.out⟩
end Cr
end Go.Proofs.YtfhhnajnanlmgaaDoor
