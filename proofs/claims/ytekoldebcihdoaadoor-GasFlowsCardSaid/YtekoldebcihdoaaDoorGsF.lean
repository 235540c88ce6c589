/- WALK: edenref4.power, ones, Met, Next. -/
import Derived.Test.YtekoldebcihdoaaDoorGsM
namespace Go.Proofs.YtekoldebcihdoaaDoor
set_option linter.unusedSimpArgs false
set_option linter.unusedVariables false
open Go.RowKit
namespace Gs
open Tld Mem

theorem pow_le6 {i : Nat} (h : i ≤ 6) : 2 ^ i ≤ 64 := Nat.pow_le_pow_right (n := 2) (by omega) h
set_option maxHeartbeats 2000000 in
theorem power_any (d : Nat) (w : World) (hd : d ≤ 6) : Calls Tryd.prog 25 #[.int .i64 d] w fun e w' => e = .returned (.int .i64 (2 ^ d : Nat)) ∧ w' = w := by
  go_enter Tryd.func25, Tryd.ntmps25
  go_wp2_with fail
  go_loopw [3, 4] (fun u v wr => ∃ i x : Nat, i ≤ d ∧ v = .int .i64 (i : Nat) ∧ u = .int .i64 (x : Nat) ∧ x = 2 ^ i ∧ x ≤ 64 ∧ wr = w) (fun _ v _ => d - (RowKit.intOf v).toNat)
  case atStart => exact ⟨0, 1, Nat.zero_le _, rfl, rfl, rfl, by omega, rfl⟩
  case round =>
    obtain ⟨i, x, hi, rfl, rfl, hx, hxl, hw⟩ := hrel
    rw [hw]
    have HX := Lib.hid hx
    clear hx hw
    by_cases hid : i < d
    · have hi2 : (i : Int) < (d : Int) := by omega
      have HL := Lib.hid (pow_le6 (i := i + 1) (by omega))
      have HX2 : Hid (x * 2 = 2 ^ (i + 1)) := by show _ = _; rw [HX.out, Nat.pow_succ]
      go_wp2_with fail
      go_roundw
      case rel => exact ⟨i + 1, x * 2, by omega, by go_num, by go_num, HX2.out, by rw [HX2.out]; exact HL.out, by first | rfl | trivial⟩
      case measure => simp [RowKit.intOf]; omega
    · obtain rfl : i = d := by omega
      have hnl : ¬ (i : Int) < (i : Int) := by omega
      go_wp2_with fail
      go_ret
      exact ⟨congrArg (fun z : Nat => Ending.returned (.int .i64 z)) HX.out, by first | rfl | trivial⟩

theorem pc_half : ∀ q, q < 64 → pc6 q = q % 2 + pc6 (q / 2) := by decide +kernel
set_option maxHeartbeats 2000000 in
theorem ones_ref (c : Nat) (w : World) (hc : c < 64) : Calls Tryd.prog 27 #[.int .i64 c] w fun e w' => e = .returned (.int .i64 (pc6 c : Nat)) ∧ w' = w := by
  go_enter Tryd.func27, Tryd.ntmps27
  go_wp2_with fail
  go_loopw [0, 3] (fun u v wr => ∃ q k : Nat, q ≤ c ∧ u = .int .i64 (q : Nat) ∧ v = .int .i64 (k : Nat) ∧ k + pc6 q = pc6 c ∧ k ≤ 6 ∧ wr = w) (fun u _ _ => (RowKit.intOf u).toNat)
  case atStart => exact ⟨c, 0, Nat.le_refl _, rfl, rfl, Nat.zero_add _, by omega, rfl⟩
  case round =>
    obtain ⟨q, k, hq, rfl, rfl, hk, hkl, hw⟩ := hrel
    rw [hw]
    have HK := Lib.hid hk
    clear hw hk
    by_cases h0 : 0 < q
    · have hq2 : (0 : Int) < (q : Int) := by omega
      have hm : (q : Int).tmod 2 = ((q % 2 : Nat) : Int) := Int.ofNat_tmod _ _
      have hdv : (q : Int).tdiv 2 = ((q / 2 : Nat) : Int) := Int.ofNat_tdiv _ _
      have h1 := pc_half q (by omega)
      have h2 := pc_le c
      obtain ⟨r, hr⟩ : ∃ r, r = q % 2 := ⟨_, rfl⟩
      obtain ⟨s, hs⟩ : ∃ s, s = q / 2 := ⟨_, rfl⟩
      rw [← hr] at hm h1
      rw [← hs] at hdv h1
      have hr1 : r ≤ 1 := by omega
      have hsl : s < q := by omega
      have HN : Hid ((k + r) + pc6 s = pc6 c ∧ k + r ≤ 6) := by
        have := HK.out
        exact ⟨by omega, by omega⟩
      clear hr hs h1 h2
      go_wp2_with fail
      go_roundw
      case rel => exact ⟨s, k + r, by omega, rfl, by go_num, HN.out.1, HN.out.2, by first | rfl | trivial⟩
      case measure => simp [RowKit.intOf]; omega
    · obtain rfl : q = 0 := by omega
      have HE : Hid (k = pc6 c) := by have := HK.out; exact this
      go_wp2_with fail
      go_ret
      exact ⟨congrArg (fun z : Nat => Ending.returned (.int .i64 z)) HE.out, by first | rfl | trivial⟩

set_option maxHeartbeats 8000000 in
set_option maxRecDepth 100000 in
theorem Met_any (K c o : Nat) (w : World) (hK : (K = 4 ∧ c < 16) ∨ (K = 6 ∧ c < 64)) (ho : o = 0 ∨ o = 1) :
    Calls Tryd.prog 23 #[.int .i64 K, .int .i64 c, .int .i64 o] w fun e w' => e = .returned (.int .i64 (met K c o : Nat)) ∧ w' = w := by
  rcases hK with ⟨rfl, hc⟩ | ⟨rfl, hc⟩
  · rw [met4]
    by_cases h5 : c = 5
    · subst h5
      go_enter Tryd.func23, Tryd.ntmps23
      go_wp2_with fail
      go_ret
      exact ⟨rfl, rfl⟩
    · by_cases h10 : c = 10
      · subst h10
        go_enter Tryd.func23, Tryd.ntmps23
        go_wp2_with fail
        go_ret
        exact ⟨rfl, rfl⟩
      · rw [if_neg h5, if_neg h10]
        have q1 : ((c : Int) == 5) = false := beq_eq_false_iff_ne.2 (by omega)
        have q2 : ((c : Int) == 10) = false := beq_eq_false_iff_ne.2 (by omega)
        have q3 : ¬ (c : Int) = 5 := by omega
        have q4 : ¬ (c : Int) = 10 := by omega
        go_enter Tryd.func23, Tryd.ntmps23
        go_wp2_with fail
        go_ret
        exact ⟨rfl, rfl⟩
  · by_cases h21 : c = 21
    · subst h21
      go_enter Tryd.func23, Tryd.ntmps23
      go_wp2_with fail
      go_ret
      exact ⟨rfl, rfl⟩
    by_cases h42 : c = 42
    · subst h42
      go_enter Tryd.func23, Tryd.ntmps23
      go_wp2_with fail
      go_ret
      exact ⟨rfl, rfl⟩
    have HME : Hid (met 6 c o = if c = 9 then (if o = 1 then 18 else 36) else if c = 18 then (if o = 1 then 36 else 9) else if c = 36 then (if o = 1 then 9 else 18) else c) := by
      show _ = _
      unfold met
      rw [if_neg (by omega), if_neg h21, if_neg h42]
    rw [HME.out, show ((6 : Nat) : Int) = 6 from rfl]
    clear HME
    have q21 : ((c : Int) == 21) = false := beq_eq_false_iff_ne.2 (by omega)
    have r21 : ¬ (c : Int) = 21 := by omega
    have q42 : ((c : Int) == 42) = false := beq_eq_false_iff_ne.2 (by omega)
    have r42 : ¬ (c : Int) = 42 := by omega
    have HP := Lib.hid (fun d w2 (h : d ≤ 6) => power_any d w2 h)
    go_enter Tryd.func23, Tryd.ntmps23
    go_wp2_with fail
    go_loopw [7] (fun v wr => ∃ d : Nat, d ≤ 3 ∧ v = .int .i64 (d : Nat) ∧ (0 < d → c ≠ 9) ∧ (1 < d → c ≠ 18) ∧ (2 < d → c ≠ 36) ∧ wr = w) (fun v _ => 3 - (RowKit.intOf v).toNat)
    case atStart => exact ⟨0, Nat.zero_le _, rfl, fun h => by omega, fun h => by omega, fun h => by omega, rfl⟩
    case round =>
      obtain ⟨d, hd, rfl, h9, h18, h36, hw⟩ := hrel
      rw [hw]
      have hd4 : d = 0 ∨ d = 1 ∨ d = 2 ∨ d = 3 := by omega
      clear hw hd
      rcases hd4 with rfl | rfl | rfl | rfl
      · by_cases hc9 : c = 9
        · subst hc9
          clear h9 h18 h36 q21 r21 q42 r42
          rcases ho with rfl | rfl
          · go_wp2_with fail
            refine (HP.out 0 w (by omega)).mono ?_
            rintro e1 w1 ⟨rfl, hw1⟩
            rw [hw1]
            go_wp2_with fail
            refine (HP.out 3 w (by omega)).mono ?_
            rintro e2 w2 ⟨rfl, hw2⟩
            rw [hw2]
            go_wp2_with fail
            refine (HP.out 2 w (by omega)).mono ?_
            rintro e3 w3 ⟨rfl, hw3⟩
            rw [hw3]
            go_wp2_with fail
            refine (HP.out 5 w (by omega)).mono ?_
            rintro e4 w4 ⟨rfl, hw4⟩
            rw [hw4]
            go_wp2_with fail
            go_ret
            exact ⟨rfl, rfl⟩
          · go_wp2_with fail
            refine (HP.out 0 w (by omega)).mono ?_
            rintro e1 w1 ⟨rfl, hw1⟩
            rw [hw1]
            go_wp2_with fail
            refine (HP.out 3 w (by omega)).mono ?_
            rintro e2 w2 ⟨rfl, hw2⟩
            rw [hw2]
            go_wp2_with fail
            refine (HP.out 1 w (by omega)).mono ?_
            rintro e3 w3 ⟨rfl, hw3⟩
            rw [hw3]
            go_wp2_with fail
            refine (HP.out 4 w (by omega)).mono ?_
            rintro e4 w4 ⟨rfl, hw4⟩
            rw [hw4]
            go_wp2_with fail
            go_ret
            exact ⟨rfl, rfl⟩
        · have s1 : ((c : Int) == 9) = false := beq_eq_false_iff_ne.2 (by omega)
          have s2 : ¬ (c : Int) = 9 := by omega
          have H9 := Lib.hid h9
          have H18 := Lib.hid h18
          have HC := Lib.hid hc9
          clear h9 h18 h36 hc9
          go_wp2_with fail
          refine (HP.out 0 w (by omega)).mono ?_
          rintro e1 w1 ⟨rfl, hw1⟩
          rw [hw1]
          go_wp2_with fail
          refine (HP.out 3 w (by omega)).mono ?_
          rintro e2 w2 ⟨rfl, hw2⟩
          rw [hw2]
          go_wp2_with fail
          go_roundw
          case rel => exact ⟨1, by omega, by go_num, fun _ => HC.out, fun h => by omega, fun h => by omega, by first | rfl | trivial⟩
          case measure => simp [RowKit.intOf]
      · by_cases hc9 : c = 18
        · subst hc9
          clear h9 h18 h36 q21 r21 q42 r42
          rcases ho with rfl | rfl
          · go_wp2_with fail
            refine (HP.out 1 w (by omega)).mono ?_
            rintro e1 w1 ⟨rfl, hw1⟩
            rw [hw1]
            go_wp2_with fail
            refine (HP.out 4 w (by omega)).mono ?_
            rintro e2 w2 ⟨rfl, hw2⟩
            rw [hw2]
            go_wp2_with fail
            refine (HP.out 0 w (by omega)).mono ?_
            rintro e3 w3 ⟨rfl, hw3⟩
            rw [hw3]
            go_wp2_with fail
            refine (HP.out 3 w (by omega)).mono ?_
            rintro e4 w4 ⟨rfl, hw4⟩
            rw [hw4]
            go_wp2_with fail
            go_ret
            exact ⟨rfl, rfl⟩
          · go_wp2_with fail
            refine (HP.out 1 w (by omega)).mono ?_
            rintro e1 w1 ⟨rfl, hw1⟩
            rw [hw1]
            go_wp2_with fail
            refine (HP.out 4 w (by omega)).mono ?_
            rintro e2 w2 ⟨rfl, hw2⟩
            rw [hw2]
            go_wp2_with fail
            refine (HP.out 2 w (by omega)).mono ?_
            rintro e3 w3 ⟨rfl, hw3⟩
            rw [hw3]
            go_wp2_with fail
            refine (HP.out 5 w (by omega)).mono ?_
            rintro e4 w4 ⟨rfl, hw4⟩
            rw [hw4]
            go_wp2_with fail
            go_ret
            exact ⟨rfl, rfl⟩
        · have s1 : ((c : Int) == 18) = false := beq_eq_false_iff_ne.2 (by omega)
          have s2 : ¬ (c : Int) = 18 := by omega
          have H9 := Lib.hid h9
          have H18 := Lib.hid h18
          have HC := Lib.hid hc9
          clear h9 h18 h36 hc9
          go_wp2_with fail
          refine (HP.out 1 w (by omega)).mono ?_
          rintro e1 w1 ⟨rfl, hw1⟩
          rw [hw1]
          go_wp2_with fail
          refine (HP.out 4 w (by omega)).mono ?_
          rintro e2 w2 ⟨rfl, hw2⟩
          rw [hw2]
          go_wp2_with fail
          go_roundw
          case rel => exact ⟨2, by omega, by go_num, fun _ => H9.out (by omega), fun h => HC.out, fun h => by omega, by first | rfl | trivial⟩
          case measure => simp [RowKit.intOf]
      · by_cases hc9 : c = 36
        · subst hc9
          clear h9 h18 h36 q21 r21 q42 r42
          rcases ho with rfl | rfl
          · go_wp2_with fail
            refine (HP.out 2 w (by omega)).mono ?_
            rintro e1 w1 ⟨rfl, hw1⟩
            rw [hw1]
            go_wp2_with fail
            refine (HP.out 5 w (by omega)).mono ?_
            rintro e2 w2 ⟨rfl, hw2⟩
            rw [hw2]
            go_wp2_with fail
            refine (HP.out 1 w (by omega)).mono ?_
            rintro e3 w3 ⟨rfl, hw3⟩
            rw [hw3]
            go_wp2_with fail
            refine (HP.out 4 w (by omega)).mono ?_
            rintro e4 w4 ⟨rfl, hw4⟩
            rw [hw4]
            go_wp2_with fail
            go_ret
            exact ⟨rfl, rfl⟩
          · go_wp2_with fail
            refine (HP.out 2 w (by omega)).mono ?_
            rintro e1 w1 ⟨rfl, hw1⟩
            rw [hw1]
            go_wp2_with fail
            refine (HP.out 5 w (by omega)).mono ?_
            rintro e2 w2 ⟨rfl, hw2⟩
            rw [hw2]
            go_wp2_with fail
            refine (HP.out 0 w (by omega)).mono ?_
            rintro e3 w3 ⟨rfl, hw3⟩
            rw [hw3]
            go_wp2_with fail
            refine (HP.out 3 w (by omega)).mono ?_
            rintro e4 w4 ⟨rfl, hw4⟩
            rw [hw4]
            go_wp2_with fail
            go_ret
            exact ⟨rfl, rfl⟩
        · have s1 : ((c : Int) == 36) = false := beq_eq_false_iff_ne.2 (by omega)
          have s2 : ¬ (c : Int) = 36 := by omega
          have H9 := Lib.hid h9
          have H18 := Lib.hid h18
          have HC := Lib.hid hc9
          clear h9 h18 h36 hc9
          go_wp2_with fail
          refine (HP.out 2 w (by omega)).mono ?_
          rintro e1 w1 ⟨rfl, hw1⟩
          rw [hw1]
          go_wp2_with fail
          refine (HP.out 5 w (by omega)).mono ?_
          rintro e2 w2 ⟨rfl, hw2⟩
          rw [hw2]
          go_wp2_with fail
          go_roundw
          case rel => exact ⟨3, by omega, by go_num, fun _ => H9.out (by omega), fun h => H18.out (by omega), fun h => HC.out, by first | rfl | trivial⟩
          case measure => simp [RowKit.intOf]
      · have k9 := h9 (by omega)
        have k18 := h18 (by omega)
        have k36 := h36 (by omega)
        clear h9 h18 h36
        go_wp2_with fail
        go_ret
        exact ⟨rfl, rfl⟩
set_option maxHeartbeats 8000000 in
set_option maxRecDepth 1000000 in
theorem Next_any (K W H k d : Nat) (a : Option Addr) (n c : Nat) (w : World) (ho : Ok K W H) (hW : W ≤ 100) (hH : H ≤ 100) (hk : k < W * H) (hd : d < K) :
    Calls Tryd.prog 24 #[gas K W H a n c, .int .i64 k, .int .i64 d] w fun e w' => e = .returned (.int .i64 (nxt K W H k d : Nat)) ∧ Below w.heap.size w w' := by
  obtain ⟨hx, hy, hxy⟩ := at_of hk
  have hw1 := ho.w
  have hh1 := ho.h
  have hkk := ho.k
  obtain ⟨x, hxe⟩ : ∃ x, x = k % W := ⟨_, rfl⟩
  obtain ⟨y, hye⟩ : ∃ y, y = k / W := ⟨_, rfl⟩
  have hmod : (k : Int).tmod (W : Int) = (x : Int) := by rw [hxe]; exact Int.ofNat_tmod _ _
  have hdiv : (k : Int).tdiv (W : Int) = (y : Int) := by rw [hye]; exact Int.ofNat_tdiv _ _
  obtain ⟨od, hod⟩ : ∃ od, od = y % 2 := ⟨_, rfl⟩
  have hodm : (y : Int).tmod 2 = (od : Int) := by rw [hod]; exact Int.ofNat_tmod _ _
  have HN : Hid (nxt K W H k d = (y + dY K d + (H - 1)) % H * W + (x + dX K d od + (W - 1)) % W) := by
    show _ = _
    rw [hod, hxe, hye]
    rfl
  have hod2 : od = 0 ∨ od = 1 := by omega
  rw [← hxe] at hx
  rw [← hye] at hy
  rw [HN.out]
  clear hxy hxe hye hod HN ho hk
  unfold gas
  go_enter Tryd.func24, Tryd.ntmps24
  go_upto_region 1 with fail
  have hr0 : Row (w.alloc (.cells #[.int .i64 K, .int .i64 W, .int .i64 H, .slice a n c] 24)) w.heap.size 24 (boxG K W H a n c) := row_alloc w _ _
  have hb0 : Below w.heap.size w (w.alloc (.cells #[.int .i64 K, .int .i64 W, .int .i64 H, .slice a n c] 24)) := (Below.refl _ _).alloc (Nat.le_refl _) _
  have HR := Lib.hid hr0
  have HB := Lib.hid hb0
  clear hr0 hb0
  generalize w.alloc (.cells #[.int .i64 K, .int .i64 W, .int .i64 H, .slice a n c] 24) = w1 at *
  obtain ⟨g, hg⟩ : ∃ g, g = w.heap.size := ⟨_, rfl⟩
  rw [← hg] at HR ⊢
  clear hg
  have f0 := HR.out.cell 0
  have f1 := HR.out.cell 1
  have f2 := HR.out.cell 2
  unfold boxG at f0 f1 f2
  dsimp only [List.getElem?_cons_succ, List.getElem?_cons_zero] at f0 f1 f2
  have hW0 : ¬ (W : Int) = 0 := by omega
  have hW0b : ((W : Int) == 0) = false := beq_eq_false_iff_ne.2 hW0
  have hWm : ¬ (W : Int) = -1 := by omega
  go_upto_if 20 with fail
  go_cut [7, 8] (fun v u wx => v = .int .i64 ((x : Int) + ((dX K d od : Nat) : Int) - 1) ∧ u = .int .i64 ((y : Int) + ((dY K d : Nat) : Int) - 1) ∧ wx = w1)
  case first =>
    rcases hkk with rfl | ⟨rfl, _⟩
    · have hd4 : d = 0 ∨ d = 1 ∨ d = 2 ∨ d = 3 := by omega
      clear hd
      rcases hd4 with rfl | rfl | rfl | rfl
      all_goals
        go_wp2_with fail
        go_meet
        case rel => exact ⟨by simp [dX]; try omega, by simp [dY]; try omega, rfl⟩
    · have hd6 : d = 0 ∨ d = 1 ∨ d = 2 ∨ d = 3 ∨ d = 4 ∨ d = 5 := by omega
      clear hd
      rcases hod2 with rfl | rfl <;> rcases hd6 with rfl | rfl | rfl | rfl | rfl | rfl
      all_goals
        go_wp2_with fail
        go_meet
        case rel => exact ⟨by simp [dX]; try omega, by simp [dY]; try omega, rfl⟩
  case rest =>
    obtain ⟨rfl, rfl, hwx⟩ := hcut
    rw [hwx]
    have ht : dX K d od ≤ 2 := dX_le hkk hd hod2
    have hu : dY K d ≤ 2 := dY_le hkk hd
    obtain ⟨t, hte⟩ : ∃ t, t = dX K d od := ⟨_, rfl⟩
    obtain ⟨u, hue⟩ : ∃ u, u = dY K d := ⟨_, rfl⟩
    rw [← hte] at ht ⊢
    rw [← hue] at hu ⊢
    have HTE := Lib.hid hte
    have HUE := Lib.hid hue
    clear hkk hd hod2 hmod hdiv hodm hte hue hwx
    obtain ⟨e, he⟩ : ∃ e : Int, e = (x : Int) + (t : Int) - 1 := ⟨_, rfl⟩
    obtain ⟨e2, he2⟩ : ∃ e : Int, e = (y : Int) + (u : Int) - 1 := ⟨_, rfl⟩
    rw [← he, ← he2]
    obtain ⟨nx, hnx⟩ : ∃ nx, nx = (x + t + (W - 1)) % W := ⟨_, rfl⟩
    obtain ⟨ny, hny⟩ : ∃ ny, ny = (y + u + (H - 1)) % H := ⟨_, rfl⟩
    have hxm : (e + (W : Int)).tmod (W : Int) = (nx : Int) := by rw [hnx]; exact tm_of hw1 (by omega)
    have hym : (e2 + (H : Int)).tmod (H : Int) = (ny : Int) := by rw [hny]; exact tm_of hh1 (by omega)
    have HNX := Lib.hid hnx
    have HNY := Lib.hid hny
    have hnl : nx < W := by rw [hnx]; exact Nat.mod_lt _ hw1
    have hyl : ny < H := by rw [hny]; exact Nat.mod_lt _ hh1
    have hpl : ny * W < 10000 := by
      have : ny * W ≤ 99 * 100 := Nat.mul_le_mul (by omega) hW
      omega
    obtain ⟨p, hp⟩ : ∃ p, p = ny * W := ⟨_, rfl⟩
    have hpw : (ny : Int) * (W : Int) = (p : Int) := by rw [hp]; push_cast; rfl
    rw [← hp] at hpl
    have HP := Lib.hid hp
    have hH0 : ¬ (H : Int) = 0 := by omega
    have hH0b : ((H : Int) == 0) = false := beq_eq_false_iff_ne.2 hH0
    have hHm : ¬ (H : Int) = -1 := by omega
    have he1 : -1 ≤ e ∧ e ≤ 200 := by omega
    have he3 : -1 ≤ e2 ∧ e2 ≤ 200 := by omega
    obtain ⟨he1a, he1b⟩ := he1
    obtain ⟨he3a, he3b⟩ := he3
    clear hnx hny hp he he2 ht hu
    go_wp2_with fail
    go_ret
    exact ⟨by rw [← HTE.out, ← HUE.out, ← HNX.out, ← HNY.out, ← HP.out]; push_cast; rfl, HB.out⟩
end Gs
end Go.Proofs.YtekoldebcihdoaaDoor
