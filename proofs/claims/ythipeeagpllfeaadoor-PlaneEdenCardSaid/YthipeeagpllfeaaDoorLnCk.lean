/- WALK: rules.Check, and what it calls. -/
import Derived.Test.YthipeeagpllfeaaDoorChecked
import Derived.Test.YthipeeagpllfeaaDoorShelf
import Derived.Test.YthipeeagpllfeaaDoorOps
import Derived.Test.YthipeeagpllfeaaDoorErr
import Derived.Test.YthipeeagpllfeaaDoorInts
import Derived.Test.YthipeeagpllfeaaDoorLnG
import Derived.Shelf.Strings.SlTrimAscii
import Derived.WalkSpells
import Derived.WalkLawsBesides
import Derived.Lib.Hide
import Derived.BigQuiet
import Derived.Deep.QuietTactic
import Derived.Deep.DeepCutAuto
import Derived.Deep.RegionHeld3
namespace Go.Proofs.YthipeeagpllfeaaDoor
set_option linter.unusedSimpArgs false
set_option linter.unusedVariables false
open Go.RowKit
namespace Ln
open Tld Mem

/-- An ending with a bool. -/
def IsB (e : Ending) : Prop := ∃ b, e = .returned (.bool b)
/-- What rules.power gives. -/
def pw (a : Nat) : Nat → Nat
  | 0 => 1
  | n + 1 => if 4096 < pw a n then pw a n else pw a n * a
theorem pw_is {a : Nat} (ha : 1 ≤ a) : ∀ n, pw a n = a ^ n ∨ (4096 < pw a n ∧ 4096 < a ^ n)
  | 0 => .inl rfl
  | n + 1 => by
    have hm : a ^ n ≤ a ^ (n + 1) := Nat.pow_le_pow_right ha (by omega)
    rcases pw_is ha n with h | ⟨h1, h2⟩
    · unfold pw
      by_cases h3 : 4096 < pw a n
      · rw [if_pos h3]; exact .inr ⟨h3, by omega⟩
      · rw [if_neg h3, h, Nat.pow_succ]; exact .inl rfl
    · unfold pw
      rw [if_pos h1]; exact .inr ⟨h1, by omega⟩
theorem pw_le {a : Nat} (h4 : a ≤ 4) : ∀ n, pw a n ≤ 16384
  | 0 => by simp [pw]
  | n + 1 => by
    have := pw_le h4 n
    unfold pw
    split
    · exact this
    · rename_i h
      have : pw a n * a ≤ 4096 * 4 := Nat.mul_le_mul (by omega) h4
      omega
theorem pw_stay {a n : Nat} (h : 4096 < pw a n) : ∀ k, pw a (n + k) = pw a n
  | 0 => rfl
  | k + 1 => by
    rw [show pw a (n + (k + 1)) = if 4096 < pw a (n + k) then pw a (n + k) else pw a (n + k) * a from rfl, pw_stay h k, if_pos h]
theorem pw_len {a n len : Nat} (ha : 1 ≤ a) (hl : len ≤ 4096) : len = pw a n ↔ len = a ^ n := by
  rcases pw_is ha n with h | ⟨h1, h2⟩
  · rw [h]
  · omega
set_option maxHeartbeats 1000000 in
theorem power_any {a n : Nat} (h1 : 1 ≤ a) (h4 : a ≤ 4) (hn : n ≤ 100000) (w : World) : Calls Tryd.prog 35 #[.int .i64 a, .int .i64 n] w fun e w' => e = .returned (.int .i64 (pw a n : Nat)) ∧ w' = w := by
  go_enter Tryd.func35, Tryd.ntmps35
  go_wp2_with fail
  go_loop [5, 7] (fun u v => ∃ i : Nat, i ≤ n ∧ v = .int .i64 i ∧ u = .int .i64 (pw a i : Nat)) (fun _ v => n - (intOf v).toNat)
  case atStart => exact ⟨0, Nat.zero_le _, rfl, rfl⟩
  case round =>
    obtain ⟨i, hi, rfl, rfl⟩ := hrel
    have hle := pw_le h4 i
    by_cases hlt : i < n
    · by_cases hp : 4096 < pw a i
      · have HS : Hid (pw a i = pw a n) := by
          have := pw_stay hp (n - i)
          rw [show i + (n - i) = n from by omega] at this
          exact this.symm
        generalize pw a i = p at *
        go_wp2_with fail
        go_ret
        exact ⟨congrArg (fun z : Nat => Ending.returned (.int .i64 z)) HS.out, rfl⟩
      · have HN : Hid (pw a (i + 1) = pw a i * a) := by
          show pw a (i + 1) = _
          rw [pw, if_neg hp]
        have hm : pw a i * a ≤ 16384 := by rw [← HN.out]; exact pw_le h4 _
        generalize hq : pw a (i + 1) = q at *
        have HQ := Lib.hid hq
        clear hq
        generalize pw a i = p at *
        have hw : IntKind.i64.wrap ((p : Int) * (a : Int)) = (q : Int) := by
          rw [HN.out, show ((p : Int) * (a : Int)) = ((p * a : Nat) : Int) from by push_cast; rfl, IntKind.wrap_i64]; omega
        go_wp2_with fail
        go_round
        case rel => exact ⟨i + 1, by omega, by go_num, by rw [HQ.out]⟩
        case measure => simp [intOf]; omega
    · have e : i = n := by omega
      subst e
      go_wp2_with fail
      go_ret
      exact ⟨rfl, rfl⟩
theorem bits_any (z : Int) (w : World) : Calls Tryd.prog 34 #[.int .i64 z] w fun e w' => IsB e ∧ w = w' := by
  go_enter Tryd.func34, Tryd.ntmps34
  by_cases h0 : 0 ≤ z
  · go_wp2
    go_ret
    exact ⟨⟨_, rfl⟩, rfl⟩
  · go_wp2
    go_ret
    exact ⟨⟨_, rfl⟩, rfl⟩
theorem trim_any (s : ByteArray) (w : World) (hs : s.size ≤ 9223372036854775807) : Calls Tryd.prog 49 #[.string s, .string ⟨#[76, 82]⟩] w fun e w' => (∃ r : ByteArray, e = .returned (.string r)) ∧ Below w.heap.size w w' :=
  (show Calls Tryd.prog 49 #[.string s, .string ⟨#[76, 82]⟩] w fun e w' => e = .returned (.string ⟨(Lib.trimS s.data.toList (⟨#[76, 82]⟩ : ByteArray).data.toList).toArray⟩) ∧ Below w.heap.size w w' from
    Any.strings_Trim_laid Tryd.lays160 (by kernel_rfl) s ⟨#[76, 82]⟩ w hs (by decide) (ascii_of_all (by decide))).mono fun e w' h => ⟨⟨_, h.1⟩, h.2⟩
theorem turns_any (s : ByteArray) (w : World) (hs : s.size ≤ 9223372036854775807) : Calls Tryd.prog 38 #[.string s] w fun e w' => IsB e ∧ Below w.heap.size w w' := by
  have HT := Lib.hid (trim_any s w hs)
  go_enter Tryd.func38, Tryd.ntmps38
  have hd : s.size = 0 ∨ (1 ≤ s.size ∧ s.size ≤ 26) ∨ (1 ≤ s.size ∧ 26 < s.size) := by omega
  rcases hd with h | ⟨h1, h2⟩ | ⟨h1, h2⟩
  · go_wp2
    go_ret
    exact ⟨⟨_, rfl⟩, Below.refl _ _⟩
  · go_wp2_with fail
    refine HT.out.mono ?_
    rintro e1 w1 ⟨⟨r, rfl⟩, hb⟩
    go_wp2_with fail
    go_ret
    exact ⟨⟨_, rfl⟩, hb⟩
  · go_wp2
    go_ret
    exact ⟨⟨_, rfl⟩, Below.refl _ _⟩
/-- A rule as a value, as a box. -/
def rulL (K B S st ra : Int) (ta : Option Addr) (tn tc : Nat) (tu : ByteArray) : List Value := [.int .i64 K, .int .i64 B, .int .i64 S, .int .i64 st, .int .i64 ra, .slice ta tn tc, .string tu]
def offS (st z : Int) : Bool := decide (z < 0 ∨ st ≤ z)
theorem offtest_any (b : Nat) (st z : Int) (w : World) (hc : w.cell? ⟨b, 3, none⟩ = some (.int .i64 st)) : Calls Tryd.prog 37 #[.int .i64 z, .pointer (some ⟨b, 0, none⟩)] w fun e w' => e = .returned (.bool (offS st z)) ∧ w = w' := by
  go_enter Tryd.func37, Tryd.ntmps37
  by_cases h0 : z < 0
  · have : offS st z = true := decide_eq_true (.inl h0)
    rw [this]
    go_wp2
    go_ret
    exact ⟨rfl, rfl⟩
  · have h2 : decide (st ≤ z) = offS st z := by
      unfold offS
      exact decide_eq_decide.2 (by omega)
    go_wp2
    go_ret
    exact ⟨rfl, rfl⟩
end Ln
end Go.Proofs.YthipeeagpllfeaaDoor
