/- WALK: edenref1.Digits, edenref1.times: a number in decimal; a tag, so many times. -/
import Derived.Test.YtgagophijmiceaaDoorPwDrPl
namespace Go.Proofs.YtgagophijmiceaaDoor
set_option linter.unusedSimpArgs false
set_option linter.unusedVariables false
open Go.RowKit
namespace Pw
open Tld Mem Bl Pn

theorem cells1 (w : World) (T : TypeId) (c : UInt8) (v : Int) (hv : v = (c.toNat : Int)) : Mem.Cells (w.alloc (.cells #[.int .u8 v] T)) (some ⟨w.heap.size, 0, none⟩) (ByteArray.mk #[c]).size (fun i => .int .u8 ((((ByteArray.mk #[c]).data.toList.getD i 0).toNat : Nat) : Int)) := by
  intro i hi
  have h0 : i = 0 := by
    have : (ByteArray.mk #[c]).size = 1 := rfl
    omega
  subst h0
  have hr := row_alloc w T [.int .u8 v]
  refine ⟨w.heap.size, 0, rfl, hr.lt, ?_⟩
  have hc := hr.cell 0
  dsimp only [List.getElem?_cons_zero] at hc
  rw [Nat.add_zero]
  refine hc.trans ?_
  rw [hv]
  rfl
theorem byte_of {d : Nat} (hd : d < 10) : (48 + (d : Int)) = (((UInt8.ofNat (48 + d)).toNat : Nat) : Int) := by
  have : (UInt8.ofNat (48 + d)).toNat = 48 + d := by
    rw [UInt8.toNat_ofNat']
    omega
  rw [this]
  push_cast
  rfl

set_option maxHeartbeats 4000000 in
set_option maxRecDepth 100000 in
theorem digits_any (n : Nat) (hn : n ≤ 999) (w : World) : Calls Tryd.prog 51 #[.int .i64 n] w fun e w' => e = .returned (.string ⟨(Lib.decDigits n).toArray⟩) ∧ Below w.heap.size w w' := by
  have HN := Lib.hid hn
  obtain ⟨d, hd⟩ : ∃ d, d = n % 10 := ⟨_, rfl⟩
  have ed : (n : Int) % 10 = (d : Int) := by omega
  have ed2 : (n : Int).tmod 10 = (d : Int) := by rw [Int.tmod_eq_emod_of_nonneg (by omega)]; omega
  have hd9 : d < 10 := by omega
  obtain ⟨c, hc⟩ : ∃ c, c = UInt8.ofNat (48 + d) := ⟨_, rfl⟩
  have HB : Hid (Below w.heap.size w (w.alloc (.cells #[.int .u8 (48 + (d : Int))] 5))) := Lib.hid ((Below.refl _ _).alloc (Nat.le_refl _) _)
  have HC := Lib.hid (cells1 w 5 c (48 + (d : Int)) (by rw [hc]; exact byte_of hd9))
  have hneg : decide ((n : Int) < 0) = false := decide_eq_false (by omega)
  have HP : Hid (pre n ++ [c] = Lib.decDigits n) := Lib.hid (by rw [hc, hd]; exact pre_last n)
  clear hd hc
  go_enter Tryd.func51, Tryd.ntmps51
  go_upto_region 7 with (refine Ops.wpList_string rfl 84 9 5 _ rfl Tryd.underlying84 Tryd.underlying5 Tryd.underlying9 _ 1 ⟨#[c]⟩ rfl HC.out (by simp) ?_)
  clear HC
  generalize w.alloc (.cells #[.int .u8 (48 + (d : Int))] 5) = w1 at *
  clear ed ed2 hd9 hneg
  go_loopw [0, 4] (fun vn vs wr => ∃ m : Nat, ∃ bs : ByteArray, vn = .int .i64 ((m : Nat) : Int) ∧ vs = .string bs ∧ m ≤ n ∧ pre m ++ bs.data.toList = Lib.decDigits n ∧ Below w.heap.size w wr) (fun v _ _ => (RowKit.intOf v).toNat)
  case atStart => exact ⟨n, _, rfl, rfl, Nat.le_refl _, HP.out, HB.out⟩
  case round =>
    clear HP HB hn
    obtain ⟨m, bs, rfl, rfl, hm, hp, hb⟩ := hrel
    have HP := Lib.hid hp
    have HB := Lib.hid hb
    have HM := Lib.hid hm
    have hbs : bs.size ≤ 3 := by
      have h1 := dec_len HN.out
      rw [← hp, List.length_append] at h1
      have h3 : bs.data.toList.length = bs.data.size := Array.length_toList
      have h2 : bs.data.size ≤ 3 := by omega
      exact h2
    clear hp hb hm
    by_cases h10 : 10 ≤ m
    · have e1 : decide ((10 : Int) ≤ (m : Int)) = true := decide_eq_true (by omega)
      have e2 : decide (10 ≤ m) = true := decide_eq_true (by omega)
      obtain ⟨q, hq⟩ : ∃ q, q = m / 10 := ⟨_, rfl⟩
      obtain ⟨d2, hd2⟩ : ∃ d, d = q % 10 := ⟨_, rfl⟩
      have a1 : (m : Int).tdiv 10 = (q : Int) := by rw [Int.tdiv_eq_ediv_of_nonneg (by omega)]; omega
      have a2 : (m : Int) / 10 = (q : Int) := by omega
      have a3 : (q : Int) % 10 = (d2 : Int) := by omega
      have a4 : (q : Int).tmod 10 = (d2 : Int) := by rw [Int.tmod_eq_emod_of_nonneg (by omega)]; omega
      have hd9 : d2 < 10 := by omega
      have hq9 : q ≤ 999 := by have := HM.out; have := HN.out; omega
      obtain ⟨c2, hc2⟩ : ∃ c, c = UInt8.ofNat (48 + d2) := ⟨_, rfl⟩
      have HP2 : Hid (pre q ++ (ByteArray.mk #[c2] ++ bs).data.toList = Lib.decDigits n) := Lib.hid (by
        rw [← HP.out, pre_next h10, hc2, hd2, hq]
        simp)
      have HC2 := Lib.hid (cells1 wr 5 c2 (48 + (d2 : Int)) (by rw [hc2]; exact byte_of hd9))
      have HB2 : Hid (Below w.heap.size w (wr.alloc (.cells #[.int .u8 (48 + (d2 : Int))] 5))) := Lib.hid (HB.out.trans (((Below.refl wr.heap.size wr).alloc (Nat.le_refl _) _).mono HB.out.size))
      have HQ : Hid (q ≤ n ∧ q < m) := Lib.hid (by have := HM.out; omega)
      clear hq hd2 hc2 h10 HP HB
      go_wp2_with (refine Ops.wpList_string rfl 84 9 5 _ rfl Tryd.underlying84 Tryd.underlying5 Tryd.underlying9 _ 1 ⟨#[c2]⟩ rfl HC2.out (by simp) ?_)
      clear HC2
      go_roundw
      case rel => exact ⟨q, _, rfl, rfl, HQ.out.1, HP2.out, HB2.out⟩
      case measure => exact HQ.out.2
    · have e1 : decide ((10 : Int) ≤ (m : Int)) = false := decide_eq_false (by omega)
      have e2 : decide (10 ≤ m) = false := decide_eq_false (by omega)
      have HE : Hid (bs = ⟨(Lib.decDigits n).toArray⟩) := Lib.hid (by
        have h := HP.out
        unfold pre at h
        rw [if_pos (by omega), List.nil_append] at h
        rw [← h])
      clear h10
      go_wp2_with fail
      go_ret
      exact ⟨by rw [HE.out]; rfl, HB.out⟩

theorem dig_size {n : Nat} (hn : n ≤ 999) : (ByteArray.mk (Lib.decDigits n).toArray).size ≤ 3 := by
  rw [show (ByteArray.mk (Lib.decDigits n).toArray).size = (Lib.decDigits n).length from by simp [ByteArray.size]]
  exact dec_len hn
set_option maxHeartbeats 4000000 in
set_option maxRecDepth 100000 in
theorem times_any (n : Nat) (t : UInt8) (hn : n ≤ 999) (w : World) : Calls Tryd.prog 52 #[.int .i64 n, .string ⟨#[t]⟩] w fun e w' => e = .returned (.string ⟨(item n t).toArray⟩) ∧ Below w.heap.size w w' := by
  have HC := Lib.hid (digits_any n hn w)
  have hsz := dig_size hn
  by_cases h0 : n = 0
  · subst h0
    clear hsz
    go_enter Tryd.func52, Tryd.ntmps52
    go_wp2_with fail
    go_ret
    exact ⟨rfl, Below.refl _ _⟩
  · by_cases h1 : n = 1
    · subst h1
      clear hsz
      go_enter Tryd.func52, Tryd.ntmps52
      go_wp2_with fail
      go_ret
      exact ⟨rfl, Below.refl _ _⟩
    · have g0 : ((n : Int) == 0) = false := by rw [beq_eq_false_iff_ne]; omega
      have g1 : ((n : Int) == 1) = false := by rw [beq_eq_false_iff_ne]; omega
      have g0' : ¬ (n : Int) = 0 := by omega
      have g1' : ¬ (n : Int) = 1 := by omega
      have HI : Hid (ByteArray.mk (Lib.decDigits n).toArray ++ ByteArray.mk #[t] = ⟨(item n t).toArray⟩) := Lib.hid (by
        unfold item
        rw [if_neg h0, if_neg h1]
        apply ByteArray.ext
        simp)
      generalize ByteArray.mk (Lib.decDigits n).toArray = dn at *
      clear h0 h1
      go_enter Tryd.func52, Tryd.ntmps52
      go_wp2_with fail
      refine HC.out.mono ?_
      rintro e1 w1 ⟨rfl, hb1⟩
      clear HC
      go_wp2_with fail
      go_ret
      exact ⟨by rw [HI.out]; rfl, hb1⟩
end Pw
end Go.Proofs.YtgagophijmiceaaDoor
