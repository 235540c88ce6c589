/- WALK: the document's edenref1.rising and edenref1.power. -/
import Derived.Test.YtgagophijmiceaaDoorRdN
import Derived.Test.YtgagophijmiceaaDoorRuPl
namespace Go.Proofs.YtgagophijmiceaaDoor
set_option linter.unusedSimpArgs false
set_option linter.unusedVariables false
open Go.RowKit
namespace Pr
open Mem Rd

/-- The greatest digit so far. -/
def LastOf (n : Nat) (la : Int) : Prop := (n = 0 ∧ la = -1) ∨ ∃ e : Nat, la = (e : Int) ∧ e ≤ 8 ∧ 2 ^ e ≤ n ∧ n < 2 ^ (e + 1)
theorem last_iff {n d : Nat} {la : Int} (h : LastOf n la) : n / 2 ^ d ≠ 0 ↔ (d : Int) ≤ la := by
  have hp : 0 < 2 ^ d := Nat.two_pow_pos d
  rcases h with ⟨rfl, rfl⟩ | ⟨e, rfl, h8, h1, h2⟩
  · rw [Nat.zero_div]
    constructor
    · intro h; exact absurd rfl h
    · intro h; omega
  · constructor
    · intro h
      refine Decidable.byContradiction fun hc => h ?_
      have h3 := Nat.pow_le_pow_right (n := 2) (by decide) (show e + 1 ≤ d by omega)
      exact Nat.div_eq_of_lt (by omega)
    · intro h hc
      have h3 := Nat.pow_le_pow_right (n := 2) (by decide) (show d ≤ e by omega)
      have h4 : n < 2 ^ d := by
        rcases Nat.div_eq_zero_iff.1 hc with h5 | h5
        · omega
        · exact h5
      omega
theorem last_next {n d : Nat} {la : Int} (h : LastOf n la) (hd : ¬ (d : Int) ≤ la) (h8 : d ≤ 8) : LastOf (n + 2 ^ d) (d : Int) := by
  have hp : 0 < 2 ^ d := Nat.two_pow_pos d
  have h0 : n / 2 ^ d = 0 := Decidable.byContradiction fun h1 => hd ((last_iff h).1 h1)
  have h4 : n < 2 ^ d := by
    rcases Nat.div_eq_zero_iff.1 h0 with h5 | h5
    · omega
    · exact h5
  exact .inr ⟨d, rfl, h8, Nat.le_add_left _ _, by rw [Nat.pow_succ]; omega⟩
theorem last_lt {n : Nat} {la : Int} (h : LastOf n la) : n < 512 ∧ -1 ≤ la ∧ la ≤ 8 := by
  rcases h with ⟨rfl, rfl⟩ | ⟨e, rfl, h8, h1, h2⟩
  · decide
  · have h3 := Nat.pow_le_pow_right (n := 2) (by decide) (show e + 1 ≤ 9 by omega)
    exact ⟨by omega, by omega, by omega⟩
/-- What the document's rising hands back. -/
def RisQ (o : RN) (s : ByteArray) (e : Ending) : Prop := match o with
  | .bad p => ∃ n : Nat, e = .returned (.tuple #[.int .i64 ((n : Nat) : Int), .int .i64 ((p : Nat) : Int), .bool true])
  | .ok n j => e = .returned (.tuple #[.int .i64 ((n : Nat) : Int), .int .i64 ((j : Nat) : Int), .bool false]) ∧ j ≤ s.size
theorem risQ_bad {o : RN} {s : ByteArray} {n p : Nat} (h : o = .bad p) : RisQ o s (.returned (.tuple #[.int .i64 ((n : Nat) : Int), .int .i64 ((p : Nat) : Int), .bool true])) := by
  rw [h]; exact ⟨n, rfl⟩
theorem risQ_ok {o : RN} {s : ByteArray} {n j : Nat} (h : o = .ok n j) (hj : j ≤ s.size) : RisQ o s (.returned (.tuple #[.int .i64 ((n : Nat) : Int), .int .i64 ((j : Nat) : Int), .bool false])) := by
  rw [h]; exact ⟨rfl, hj⟩
theorem wr48b {z : Int} {k : Nat} (h : z = (k : Int)) (hk : k ≤ 9223372036854775807) : wrap64 z = (k : Int) := by rw [h]; unfold wrap64; omega
theorem results_three {fn : Func} {t u v : Tmp} (h : fn.results = #[.tmp t, .tmp u, .tmp v]) (tmps : Array Value) (P : Program) (w : World) :
    (results fn tmps).run P w = .ok (.tuple #[tmps.getD t undef, tmps.getD u undef, tmps.getD v undef]) w := by
  simp [results, h]
theorem measw {z : Int} {m k n : Nat} (e : z = ((m : Nat) : Int)) (h : n - m < n - k) : n - (RowKit.intOf (.int .i64 z)).toNat < n - (RowKit.intOf (.int .i64 ((k : Nat) : Int))).toNat := by
  rw [e]
  exact h
set_option maxHeartbeats 8000000 in
set_option maxRecDepth 1000000 in
theorem rrising_any (s : ByteArray) (i : Nat) (w : World) (hs : s.size ≤ 9223372036854775807) (hi : i ≤ s.size) : Calls Tryd.prog 31 #[.string s, .int .i64 ((i : Nat) : Int)] w fun e w' => RisQ (riseR s.data.toList i 0) s e ∧ w' = w := by
  have HSZ := Lib.hid hs
  have HI := Lib.hid hi
  clear hs hi
  go_enter Tryd.func31, Tryd.ntmps31
  go_wp2_with fail
  go_loop [1, 7, 8] (fun u v x => ∃ (j n : Nat) (la : Int), u = .int .i64 ((j : Nat) : Int) ∧ v = .int .i64 ((n : Nat) : Int) ∧ x = .int .i64 la ∧ LastOf n la ∧ j ≤ s.size ∧ riseR s.data.toList i 0 = riseR s.data.toList j n) (fun u _ _ => s.size + 2 - (RowKit.intOf u).toNat)
  case atStart => exact ⟨i, 0, -1, rfl, rfl, rfl, .inl ⟨rfl, rfl⟩, HI.out, rfl⟩
  case round =>
    clear HI
    obtain ⟨j, n, la, rfl, rfl, rfl, hla, hj, hrs⟩ := hrel
    have HLA := Lib.hid hla
    have HRS := Lib.hid hrs
    have HJ := Lib.hid hj
    clear hla hrs hj
    by_cases hd : dg8 s.data.toList j = true
    · have hdd := hd
      unfold dg8 at hdd
      have hdd := of_decide_eq_true hdd
      have hjs : j < s.size := by have := hdd.1; rw [← Lib.size_eq] at this; exact this
      have hji : (j : Int) < (s.size : Int) := by omega
      have hg := get_drop s hjs
      have HD := Lib.hid hd
      have HJS := Lib.hid hjs
      obtain ⟨x, hx⟩ : ∃ x, x = s.data.toList.getD j 0 := ⟨_, rfl⟩
      rw [← hx] at hg hdd
      have HX := Lib.hid hx
      have h48 : (48 : Int) ≤ (x.toNat : Int) := by omega
      have h56 : (x.toNat : Int) ≤ 56 := by omega
      obtain ⟨d, hd2⟩ : ∃ d, d = x.toNat - 48 := ⟨_, rfl⟩
      have HDX : Hid (d ≤ 8) := Lib.hid (by omega)
      have w1 : wrap64 ((x.toNat : Int) - 48) = ((d : Nat) : Int) := wr48b (by omega) (by omega)
      have w0 : wrap64 (x.toNat : Int) = (x.toNat : Int) := wr48b rfl (by omega)
      have HD2 : Hid ((s.data.toList.getD j 0).toNat - 48 = d) := Lib.hid (by rw [← HX.out]; exact hd2.symm)
      clear hx hdd hd2 hd
      go_upto_region 4 with fail
      clear h48 h56
      by_cases hdl : (d : Int) ≤ la
      · have HBAD : Hid (riseR s.data.toList i 0 = .bad j) := Lib.hid (by rw [HRS.out]; exact riseR_bad HD.out (by rw [HD2.out]; exact (last_iff HLA.out).2 hdl))
        go_wp2_with fail
        refine bodyPost_ret (results_three rfl _ _ _) rfl ?_
        exact ⟨risQ_bad HBAD.out, rfl⟩
      · have HNX : Hid (riseR s.data.toList i 0 = riseR s.data.toList (j + 1) (n + 2 ^ d)) := Lib.hid (by
          have h := riseR_next (n := n) HD.out (by rw [HD2.out]; exact Decidable.byContradiction fun h1 => hdl ((last_iff HLA.out).1 h1))
          rw [HD2.out] at h
          rw [HRS.out]
          exact h)
        have HLN := Lib.hid (last_next HLA.out hdl HDX.out)
        have E1 : Hid (wrap64 ((j : Int) + 1) = ((j + 1 : Nat) : Int)) := Lib.hid (wr48b (by push_cast; rfl) (by have := HSZ.out; have := HJS.out; omega))
        have E2 : Hid (wrap64 ((n : Int) + ((2 ^ d : Nat) : Int)) = ((n + 2 ^ d : Nat) : Int)) := Lib.hid (wr48b (by push_cast; rfl) (by have := (last_lt HLN.out).1; omega))
        have HM : Hid (s.size + 2 - (j + 1) < s.size + 2 - j) := Lib.hid (by have := HJS.out; clear w0 w1; omega)
        go_wp2_with fail
        clear w0 w1
        go_loop [10, 11] (fun u v => ∃ k p : Nat, u = .int .i64 ((p : Nat) : Int) ∧ p = 2 ^ k ∧ v = .int .i64 ((k : Nat) : Int) ∧ k ≤ d) (fun _ v => d - (RowKit.intOf v).toNat)
        case atStart => exact ⟨0, 1, rfl, rfl, rfl, Nat.zero_le _⟩
        case round =>
          obtain ⟨k, p, rfl, hp, rfl, hk⟩ := hrel
          by_cases hkd : k < d
          · have hkl : (k : Int) < (d : Int) := by omega
            obtain ⟨p2, hp2⟩ : ∃ p2, p2 = 2 ^ (k + 1) := ⟨_, rfl⟩
            have hb : p2 ≤ 256 := by rw [hp2]; exact Nat.le_trans (Nat.pow_le_pow_right (n := 2) (by decide) (show k + 1 ≤ 8 by have := HDX.out; omega)) (by decide)
            have F1h : Hid (wrap64 ((p : Int) * 2) = ((p2 : Nat) : Int)) := Lib.hid (wr48b (by rw [hp2, hp, Nat.pow_succ]; push_cast; rfl) (by omega))
            have F2h : Hid (wrap64 ((k : Int) + 1) = ((k + 1 : Nat) : Int)) := Lib.hid (wr48b (by push_cast; rfl) (by have := HDX.out; omega))
            have HP2 := Lib.hid hp2
            have HK := Lib.hid hkd
            clear hp hk hp2 hb hkd
            go_wp2_with fail
            go_round
            case rel => exact ⟨k + 1, p2, congrArg (Value.int .i64) F1h.out, HP2.out, congrArg (Value.int .i64) F2h.out, HK.out⟩
            case measure => exact measw F2h.out (by have := HK.out; omega)
          · obtain rfl : k = d := by omega
            have hkl : ¬ (k : Int) < (k : Int) := by omega
            have HP := Lib.hid hp
            have E2p : Hid (wrap64 ((n : Int) + ((p : Nat) : Int)) = ((n + p : Nat) : Int)) := Lib.hid (by rw [HP.out]; exact E2.out)
            clear hp hk hkd
            go_wp2_with fail
            go_round
            case rel => exact ⟨j + 1, n + p, (k : Int), congrArg (Value.int .i64) E1.out, congrArg (Value.int .i64) E2p.out, rfl, by rw [HP.out]; exact HLN.out, HJS.out, by rw [HP.out]; exact HNX.out⟩
            case measure => exact measw E1.out HM.out
    · have hd : dg8 s.data.toList j = false := by simpa using hd
      have HEND : Hid (riseR s.data.toList i 0 = .ok n j) := Lib.hid (by rw [HRS.out]; exact riseR_end hd)
      by_cases hjs : j < s.size
      · have hji : (j : Int) < (s.size : Int) := by omega
        have hg := get_drop s hjs
        obtain ⟨x, hx⟩ : ∃ x, x = s.data.toList.getD j 0 := ⟨_, rfl⟩
        have hnd : (x.toNat : Int) < 48 ∨ (56 : Int) < (x.toNat : Int) := by
          unfold dg8 at hd
          have h := of_decide_eq_false hd
          rw [← Lib.size_eq, ← hx] at h
          omega
        rw [← hx] at hg
        clear hx hd
        rcases hnd with h1 | h1
        · have hn2 : ¬ (48 : Int) ≤ (x.toNat : Int) := by omega
          clear h1
          go_wp2_with fail
          refine bodyPost_ret (results_three rfl _ _ _) rfl ?_
          exact ⟨risQ_ok HEND.out HJ.out, rfl⟩
        · have h48 : (48 : Int) ≤ (x.toNat : Int) := by omega
          have hn2 : ¬ (x.toNat : Int) ≤ 56 := by omega
          clear h1
          go_wp2_with fail
          refine bodyPost_ret (results_three rfl _ _ _) rfl ?_
          exact ⟨risQ_ok HEND.out HJ.out, rfl⟩
      · have hji : ¬ (j : Int) < (s.size : Int) := by omega
        clear hd
        go_wp2_with fail
        refine bodyPost_ret (results_three rfl _ _ _) rfl ?_
        exact ⟨risQ_ok HEND.out HJ.out, rfl⟩
set_option maxHeartbeats 8000000 in
set_option maxRecDepth 1000000 in
theorem rpower_any (a n : Nat) (w : World) (ha : a ≤ 4) (hn : n ≤ 5) : Calls Tryd.prog 33 #[.int .i64 ((a : Nat) : Int), .int .i64 ((n : Nat) : Int)] w fun e w' => e = .returned (.int .i64 ((a ^ n : Nat) : Int)) ∧ w' = w := by
  have HA := Lib.hid ha
  have HN := Lib.hid hn
  clear ha hn
  go_enter Tryd.func33, Tryd.ntmps33
  go_wp2_with fail
  go_loop [5, 6] (fun u v => ∃ k p : Nat, u = .int .i64 ((p : Nat) : Int) ∧ p = a ^ k ∧ v = .int .i64 ((k : Nat) : Int) ∧ k ≤ n) (fun _ v => n - (RowKit.intOf v).toNat)
  case atStart => exact ⟨0, 1, rfl, rfl, rfl, Nat.zero_le _⟩
  case round =>
    obtain ⟨k, p, rfl, hp, rfl, hk⟩ := hrel
    by_cases hkd : k < n
    · have hkl : (k : Int) < (n : Int) := by omega
      obtain ⟨p2, hp2⟩ : ∃ p2, p2 = a ^ (k + 1) := ⟨_, rfl⟩
      have hb : p2 ≤ 1024 := by
        rw [hp2]
        exact Nat.le_trans (Nat.pow_le_pow_left HA.out _) (Nat.le_trans (Nat.pow_le_pow_right (n := 4) (by decide) (show k + 1 ≤ 5 by have := HN.out; omega)) (by decide))
      have F1 : wrap64 ((p : Int) * (a : Int)) = ((p2 : Nat) : Int) := wr48b (by rw [hp2, hp, Nat.pow_succ]; push_cast; rfl) (by omega)
      have F1h := Lib.hid F1
      have F2h : Hid (wrap64 ((k : Int) + 1) = ((k + 1 : Nat) : Int)) := Lib.hid (wr48b (by push_cast; rfl) (by have := HN.out; omega))
      have F3 : ¬ (4096 : Int) < ((p2 : Nat) : Int) := by omega
      have HP2 := Lib.hid hp2
      have HK := Lib.hid hkd
      clear hp hk hp2 hb hkd
      go_wp2_with fail
      go_round
      case rel => exact ⟨k + 1, p2, by first | rfl | exact congrArg (Value.int .i64) F1h.out, HP2.out, by first | rfl | exact congrArg (Value.int .i64) F2h.out, HK.out⟩
      case measure => first | exact measw F2h.out (by have := HK.out; omega) | exact measw (m := k + 1) rfl (by have := HK.out; omega)
    · obtain rfl : k = n := by omega
      have hkl : ¬ (k : Int) < (k : Int) := by omega
      have HP := Lib.hid hp
      clear hp hk hkd
      go_wp2_with fail
      go_ret
      obtain hp := HP.out
      subst hp
      exact ⟨rfl, rfl⟩
end Pr
end Go.Proofs.YtgagophijmiceaaDoor
