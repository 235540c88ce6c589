/- WALK: bits.Div64 by Go's own text: the quotient and the rest of a number of 128 bits by one of 64 that is greater than its upper half. -/
import Derived.Test.YtfhhnajnanlmgaaGreatDoorShelf
import Derived.Test.YtfhhnajnanlmgaaGreatDoorDvPl
import Derived.Deep.DeepCutAuto
import Derived.Deep.CutBlock
import Derived.Laws.Bits64b
import Derived.Lib.Mul64
import Derived.Shelf.Bits.Mul64
import Derived.Laws.ShiftsVar
import Derived.BigRegion
import Derived.Deep.RegionHeld3
import Derived.Lib.Hide
import Derived.Below
import Derived.Handy
namespace Go.Proofs.YtfhhnajnanlmgaaGreatDoor
set_option linter.unusedSimpArgs false
set_option linter.unusedVariables false
open Go.RowKit
namespace Dv

theorem w64 (x : Nat) (h : x < 18446744073709551616) : IntKind.u64.wrap (x : Int) = (x : Int) := Mul64.wrapN x h

set_option maxHeartbeats 4000000 in
set_option maxRecDepth 1000000 in
theorem div64 (hi lo y : Nat) (hh : hi < y) (hl : lo < 18446744073709551616) (hy : y < 18446744073709551616) (w : World) :
    Calls Tryz.prog 48 #[.int .u64 hi, .int .u64 lo, .int .u64 y] w fun e w' => e = .returned (.tuple #[.int .u64 ((hi * 18446744073709551616 + lo) / y : Nat), .int .u64 ((hi * 18446744073709551616 + lo) % y : Nat)]) ∧ ∃ d, w' = w.drewN d := by
  have hlz := Tryz.bits_LeadingZeros64 y w (by omega) (by omega)
  by_cases h0 : hi = 0
  · subst h0
    simp only [Nat.zero_mul, Nat.zero_add]
    have hz : ((y : Int) == 0) = false := beq_eq_false_iff_ne.2 (by omega)
    have hz2 : (y : Int) ≠ 0 := by omega
    have hz3 : decide (y ≤ 0) = false := decide_eq_false (by omega)
    go_enter Tryz.func48, Tryz.ntmps48
    go_upto_region 6 with fail
    refine wp_region_noPanic ?_
    go_region
    refine NoPanic.normal ?_
    have e1 : (lo : Int) / (y : Int) = ((lo / y : Nat) : Int) := (Int.natCast_ediv _ _).symm
    have e2 : (lo : Int) % (y : Int) = ((lo % y : Nat) : Int) := (Int.natCast_emod _ _).symm
    have e3 : IntKind.u64.wrap ((lo / y : Nat) : Int) = ((lo / y : Nat) : Int) := w64 _ (Nat.lt_of_le_of_lt (Nat.div_le_self _ _) hl)
    have E1 := Lib.hid e1
    have E2 := Lib.hid e2
    have E3 := Lib.hid e3
    clear e1 e2 e3
    go_wp2_with fail
    go_ret2
    refine ⟨?_, 1, rfl⟩
    show Ending.returned (.tuple #[.int .u64 (IntKind.u64.wrap ((lo : Int) / (y : Int))), .int .u64 ((lo : Int) % (y : Int))]) = _
    rw [E1.out, E2.out, E3.out]
  · obtain ⟨n1, n2, n3, n4⟩ := norm (y := y) (by omega) hy
    obtain ⟨s, hs⟩ : ∃ s, s = 64 - Lib.bitLen y := ⟨_, rfl⟩
    rw [← hs] at n3 n4
    have hs64 : s ≤ 64 := by omega
    have es : IntKind.u64.wrap (64 - ((Lib.bitLen y : Nat) : Int)) = (s : Int) := by rw [IntKind.wrap_u64]; omega
    have em : min ((s : Int)).toNat 64 = s := by omega
    have em2 : min (IntKind.u64.wrap (64 - (s : Int))).toNat 64 = 64 - s := by rw [IntKind.wrap_u64]; omega
    obtain ⟨Y, hY⟩ : ∃ Y, Y = y * 2 ^ s := ⟨_, rfl⟩
    rw [← hY] at n3 n4
    obtain ⟨H, hH⟩ : ∃ H, H = hi * 2 ^ s := ⟨_, rfl⟩
    have hHY : H < Y := by rw [hH, hY]; exact Nat.mul_lt_mul_of_pos_right hh (Nat.two_pow_pos s)
    obtain ⟨D, hD⟩ : ∃ D, D = lo / 2 ^ (64 - s) := ⟨_, rfl⟩
    have hDs : D < 2 ^ s := by
      rw [hD]
      refine (Nat.div_lt_iff_lt_mul (Nat.two_pow_pos _)).2 ?_
      rw [← Nat.pow_add, show s + (64 - s) = 64 by omega]; exact hl
    obtain ⟨U, hU⟩ : ∃ U, U = H + D := ⟨_, rfl⟩
    obtain ⟨L, hL⟩ : ∃ L, L = lo * 2 ^ s % 18446744073709551616 := ⟨_, rfl⟩
    have p2 : (2 : Int) ^ s = ((2 ^ s : Nat) : Int) := by push_cast; rfl
    have p3 : (2 : Int) ^ (64 - s) = ((2 ^ (64 - s) : Nat) : Int) := by push_cast; rfl
    have eY : IntKind.u64.wrap ((y : Int) * 2 ^ s) = (Y : Int) := by rw [p2, ← Int.natCast_mul, ← hY]; exact w64 _ n4
    have eH : IntKind.u64.wrap ((hi : Int) * 2 ^ s) = (H : Int) := by rw [p2, ← Int.natCast_mul, ← hH]; exact w64 _ (by omega)
    have eL : IntKind.u64.wrap ((lo : Int) * 2 ^ s) = (L : Int) := by rw [p2, ← Int.natCast_mul, hL]; exact Mul64.wrapM _
    have eD : (lo : Int) / 2 ^ (64 - s) = (D : Int) := by rw [p3, hD]; exact (Int.natCast_ediv _ _).symm
    have hD64 : D < 18446744073709551616 := by rw [hD]; exact Nat.lt_of_le_of_lt (Nat.div_le_self _ _) hl
    have eU : bits .or .u64 (H : Int) (D : Int) = (U : Int) := by
      rw [bits_or_u64_nat H D (by omega) hD64, hU, hH, or_add hDs]
    have hL64 : L < 18446744073709551616 := by rw [hL]; exact Nat.mod_lt _ (by omega)
    obtain ⟨A, hA⟩ : ∃ A, A = U * 4294967296 + L / 4294967296 := ⟨_, rfl⟩
    obtain ⟨C, hC⟩ : ∃ C, C = A % Y * 4294967296 + L % 4294967296 := ⟨_, rfl⟩
    obtain ⟨f1, f2, f3⟩ := fin hh hl hs64 hY (by rw [hU, hH, hD]) hL hA hC
    rw [← f2, ← f3]
    obtain ⟨y1, hy1⟩ : ∃ y1, y1 = Y / 4294967296 := ⟨_, rfl⟩
    obtain ⟨y0, hy0⟩ : ∃ y0, y0 = Y % 4294967296 := ⟨_, rfl⟩
    obtain ⟨u1, hu1⟩ : ∃ u1, u1 = L / 4294967296 := ⟨_, rfl⟩
    obtain ⟨u0, hu0⟩ : ∃ u0, u0 = L % 4294967296 := ⟨_, rfl⟩
    have eM := Mul64.maskN Y n4
    have eN := Mul64.divN Y
    have eM2 := Mul64.maskN L hL64
    have eN2 := Mul64.divN L
    rw [← hy0] at eM
    rw [← hy1] at eN
    rw [← hu0] at eM2 hC
    rw [← hu1] at eN2 hA
    have hYe : Y = y1 * 4294967296 + y0 := by omega
    have by0 : y0 < 4294967296 := by omega
    have by1 : 2147483648 ≤ y1 ∧ y1 < 4294967296 := by omega
    have bu0 : u0 < 4294967296 := by omega
    have bu1 : u1 < 4294967296 := by omega
    have bU : U < 18446744073709551616 := by omega
    have hz : ((y : Int) == 0) = false := beq_eq_false_iff_ne.2 (by omega)
    have hz1 : decide (y ≤ hi) = false := decide_eq_false (by omega)
    have hz2 : ((hi : Int) == 0) = false := beq_eq_false_iff_ne.2 (by omega)
    have GY := Lib.hid hY
    have GF := Lib.hid f1
    have GA := Lib.hid hA
    have GC := Lib.hid hC
    have GYE := Lib.hid hYe
    have hdz : ((y1 : Nat) : Int) ≠ 0 := by omega
    have hdz2 : ¬ y1 = 0 := by omega
    have hdz3 : ((y1 : Int) == 0) = false := beq_eq_false_iff_ne.2 (by omega)
    clear hY hH hU hL hD hA hC hYe hy1 hy0 hu1 hu0 f1 f2 f3 hDs
    have hlz2 : Calls Tryz.prog 64 #[.int .u64 y] w fun e w' => e = .returned (.int .i64 (s : Nat)) ∧ w' = w := by
      refine hlz.mono ?_
      rintro e w' ⟨he, hw⟩
      refine ⟨?_, hw⟩
      rw [he, hs]
      simp only [Int.toNat_natCast]
      rw [show (64 : Int) - ((Lib.bitLen y : Nat) : Int) = ((64 - Lib.bitLen y : Nat) : Int) by omega]
    have hS2 := Lib.hid hs
    clear n1 n2 hs hlz
    have X1 := Lib.hid es
    have X2 := Lib.hid em
    have X3 := Lib.hid em2
    have X4 := Lib.hid eY
    have X5 := Lib.hid eH
    have X6 := Lib.hid eL
    have X7 := Lib.hid eD
    have X8 := Lib.hid eU
    clear es em em2 eY eH eL eD eU p2 p3
    have Y1 := Lib.hid eM
    have Y2 := Lib.hid eN
    have Y3 := Lib.hid eM2
    have Y4 := Lib.hid eN2
    clear eM eN eM2 eN2 hz hz2
    go_enter Tryz.func48, Tryz.ntmps48
    go_upto_region 15 with (go_at_call 64; refine hlz2.mono ?_; rintro e w' ⟨rfl, hw⟩; rw [hw])

    simp only [X4.out, X5.out, X6.out, X7.out, X8.out]
    simp only [Y1.out, Y2.out, Y3.out, Y4.out]
    clear X1 X2 X3 X4 X5 X6 X7 X8 Y1 Y2 Y3 Y4 hlz2
    obtain ⟨qa, hqa⟩ : ∃ q, q = U / y1 := ⟨_, rfl⟩
    obtain ⟨ra, hra⟩ : ∃ r, r = U % y1 := ⟨_, rfl⟩
    have eq1 : (U : Int) / (y1 : Int) = (qa : Int) := by rw [hqa]; exact (Int.natCast_ediv _ _).symm
    have er1 : IntKind.u64.wrap ((U : Int) - IntKind.u64.wrap ((qa : Int) * (y1 : Int))) = (ra : Int) := by
      rw [IntKind.wrap_u64, IntKind.wrap_u64, hqa, hra]; exact wrem bU
    have hE : Est U y1 y0 u1 qa ra := by
      rw [hqa, hra]; exact Est.first by1.1 by0 (by have := GF.out; have := GYE.out; omega) bu1
    have hr1 : ra < 4294967296 := by rw [hra]; exact Nat.lt_trans (Nat.mod_lt _ (by omega)) by1.2
    have ewq : IntKind.u64.wrap ((qa : Nat) : Int) = (qa : Int) := w64 qa (by rw [hqa]; exact Nat.lt_of_le_of_lt (Nat.div_le_self _ _) bU)
    have HE := Lib.hid hE
    clear hqa hra hE
    go_upto_block 0 with fail
    go_cut [15, 16] from 67 to 85 (fun p t wx => p = .int .u64 (A / Y : Nat) ∧ (∃ z : Nat, t = .int .u64 z) ∧ wx = w)
    case first =>
      go_wp2_with fail
      go_loop [15, 16] (fun p t => ∃ q r : Nat, p = .int .u64 q ∧ t = .int .u64 r ∧ Est U y1 y0 u1 q r ∧ r < 4294967296) (fun p _ => (intOf p).toNat)
      case atStart => exact ⟨qa, ra, rfl, rfl, HE.out, hr1⟩
      case round =>
        obtain ⟨q, r, rfl, rfl, hE, hr⟩ := hrel
        have hqle := hE.le
        have ewm : q < 4294967296 → IntKind.u64.wrap ((q : Int) * (y0 : Int)) = ((q * y0 : Nat) : Int) := by
          intro h
          have : q * y0 ≤ 4294967296 * 4294967295 := Nat.mul_le_mul (by omega) (by omega)
          rw [← Int.natCast_mul]; exact w64 _ (by omega)
        have ewr : IntKind.u64.wrap (4294967296 * (r : Int)) = ((4294967296 * r : Nat) : Int) := by
          rw [show 4294967296 * (r : Int) = ((4294967296 * r : Nat) : Int) from (Int.natCast_mul 4294967296 r).symm]; exact w64 _ (by omega)
        have ewa : IntKind.u64.wrap (((4294967296 * r : Nat) : Int) + (u1 : Int)) = ((4294967296 * r + u1 : Nat) : Int) := by
          rw [← Int.natCast_add]; exact w64 _ (by omega)
        have ewd : 0 < q → IntKind.u64.wrap ((q : Int) - 1) = ((q - 1 : Nat) : Int) := by
          intro h
          rw [show (q : Int) - 1 = ((q - 1 : Nat) : Int) by omega]; exact w64 _ (by omega)
        have ews : IntKind.u64.wrap ((r : Int) + (y1 : Int)) = ((r + y1 : Nat) : Int) := by
          rw [← Int.natCast_add]; exact w64 _ (by omega)
        have HM := Lib.hid ewm
        have HD := Lib.hid ewd
        have HS := Lib.hid ews
        have HE := Lib.hid hE
        clear ewm ewd ews hE hqle
        obtain ⟨rb, hrb⟩ : ∃ rb, rb = 4294967296 * r + u1 := ⟨_, rfl⟩
        obtain ⟨ra, hra⟩ : ∃ ra, ra = 4294967296 * r := ⟨_, rfl⟩
        rw [← hrb] at ewa
        rw [← hra] at ewr ewa
        have HRB := Lib.hid hrb
        have hYU : U < y1 * 4294967296 + y0 := by have := GF.out; have := GYE.out; omega
        have HYU := Lib.hid hYU
        clear hYU hrb hra
        by_cases hq : 4294967296 ≤ q
        · obtain ⟨e1, e2, e3⟩ := HE.out.down HYU.out bu1 (.inl hq)
          have ewd := HD.out e1
          have ews := HS.out
          have hq2 : q - 1 < q := by omega
          generalize q - 1 = q2 at *
          generalize r + y1 = r2 at *
          have dq := @decide_eq_true ((4294967296 : Int) ≤ (q : Int)) _ (by omega)
          have dq2 := @decide_eq_true ((4294967296 : Nat) ≤ q) _ hq
          by_cases hb : 4294967296 ≤ r2
          · have hd := e2.broke (by omega) by0 e3 hb
            have HD2 := Lib.hid hd
            have db := @decide_eq_true ((4294967296 : Int) ≤ (r2 : Int)) _ (by omega)
            have db2 := @decide_eq_true ((4294967296 : Nat) ≤ r2) _ hb
            clear hd e1 e2 e3 hb hq2 hq hr
            go_wp2_with fail
            go_meet
            case rel => exact ⟨by rw [GA.out, GYE.out, HD2.out], ⟨_, rfl⟩, rfl⟩
          · have hb2 : r2 < 4294967296 := by omega
            have H2 := Lib.hid e2
            have H3 := Lib.hid hq2
            have HB2 := Lib.hid hb2
            have db := @decide_eq_false ((4294967296 : Int) ≤ (r2 : Int)) _ (by omega)
            have db2 := @decide_eq_false ((4294967296 : Nat) ≤ r2) _ hb
            clear e1 e2 e3 hq2 hb hb2 hq hr
            go_wp2_with fail
            go_round
            case rel => exact ⟨q2, r2, rfl, rfl, H2.out, HB2.out⟩
            case measure => have h3 := H3.out; simp [intOf]; omega
        · have hq1 : q < 4294967296 := by omega
          have ewm := HM.out hq1
          by_cases ht : rb < q * y0
          · obtain ⟨e1, e2, e3⟩ := HE.out.down HYU.out bu1 (.inr (by have := HRB.out; omega))
            have ewd := HD.out e1
            have ews := HS.out
            have hq2 : q - 1 < q := by omega
            generalize q * y0 = qy at *
            generalize q - 1 = q2 at *
            generalize r + y1 = r2 at *
            have dq := @decide_eq_false ((4294967296 : Int) ≤ (q : Int)) _ (by omega)
            have dq2 := @decide_eq_false ((4294967296 : Nat) ≤ q) _ hq
            have dt := @decide_eq_true ((rb : Int) < (qy : Int)) _ (by omega)
            have dt2 := @decide_eq_true (rb < qy) _ ht
            by_cases hb : 4294967296 ≤ r2
            · have hd := e2.broke (by omega) by0 e3 hb
              have HD2 := Lib.hid hd
              have db := @decide_eq_true ((4294967296 : Int) ≤ (r2 : Int)) _ (by omega)
              have db2 := @decide_eq_true ((4294967296 : Nat) ≤ r2) _ hb
              clear hd e1 e2 e3 hb hq2 hq hq1 ht hr
              go_wp2_with fail
              go_meet
              case rel => exact ⟨by rw [GA.out, GYE.out, HD2.out], ⟨_, rfl⟩, rfl⟩
            · have hb2 : r2 < 4294967296 := by omega
              have H2 := Lib.hid e2
              have H3 := Lib.hid hq2
              have HB2 := Lib.hid hb2
              have db := @decide_eq_false ((4294967296 : Int) ≤ (r2 : Int)) _ (by omega)
              have db2 := @decide_eq_false ((4294967296 : Nat) ≤ r2) _ hb
              clear e1 e2 e3 hq2 hb hb2 hq hq1 ht hr
              go_wp2_with fail
              go_round
              case rel => exact ⟨q2, r2, rfl, rfl, H2.out, HB2.out⟩
              case measure => have h3 := H3.out; simp [intOf]; omega
          · have hd := HE.out.last (by omega) (show q * y0 ≤ r * 4294967296 + u1 by have := HRB.out; omega)
            have HD2 := Lib.hid hd
            clear hd
            generalize q * y0 = qy at *
            have dq := @decide_eq_false ((4294967296 : Int) ≤ (q : Int)) _ (by omega)
            have dq2 := @decide_eq_false ((4294967296 : Nat) ≤ q) _ hq
            have dt := @decide_eq_false ((rb : Int) < (qy : Int)) _ (by omega)
            have dt2 := @decide_eq_false (rb < qy) _ ht
            clear hq hq1 ht hr
            go_wp2_with fail
            go_meet
            case rel => exact ⟨by rw [GA.out, GYE.out, HD2.out], ⟨_, rfl⟩, rfl⟩
    case rest =>
    obtain ⟨rfl, ⟨r0, rfl⟩, hwx⟩ := hcut
    obtain rfl := hwx.symm
    obtain ⟨q1, hq1⟩ : ∃ q1, q1 = A / Y := ⟨_, rfl⟩
    obtain ⟨V, hV⟩ : ∃ V, V = A % Y := ⟨_, rfl⟩
    have hVY : V < Y := by rw [hV]; exact Nat.mod_lt _ (by omega)
    have er2 : IntKind.u64.wrap (IntKind.u64.wrap (IntKind.u64.wrap ((U : Int) * 4294967296) + (u1 : Int)) - IntKind.u64.wrap ((q1 : Int) * (Y : Int))) = (V : Int) := by
      rw [IntKind.wrap_u64, IntKind.wrap_u64, IntKind.wrap_u64, IntKind.wrap_u64, hq1, hV, GA.out]
      exact wrest rfl n4 (by omega)
    have hCq : C = V * 4294967296 + u0 := by rw [GC.out, hV]
    have GC2 := Lib.hid hCq
    have GV := Lib.hid hVY
    rw [← hq1]
    have GQ1 := Lib.hid hq1
    clear eq1 er1 ewq HE hr1 hq1 hV hCq hVY
    obtain ⟨qb, hqb⟩ : ∃ q, q = V / y1 := ⟨_, rfl⟩
    obtain ⟨rb, hrb⟩ : ∃ r, r = V % y1 := ⟨_, rfl⟩
    have bV : V < 18446744073709551616 := by have := GV.out; omega
    have eq1 : (V : Int) / (y1 : Int) = (qb : Int) := by rw [hqb]; exact (Int.natCast_ediv _ _).symm
    have er1 : IntKind.u64.wrap ((V : Int) - IntKind.u64.wrap ((qb : Int) * (y1 : Int))) = (rb : Int) := by
      rw [IntKind.wrap_u64, IntKind.wrap_u64, hqb, hrb]; exact wrem bV
    have hE : Est V y1 y0 u0 qb rb := by
      rw [hqb, hrb]; exact Est.first by1.1 by0 (by have := GV.out; have := GYE.out; omega) bu0
    have hr1 : rb < 4294967296 := by rw [hrb]; exact Nat.lt_trans (Nat.mod_lt _ (by omega)) by1.2
    have ewq : IntKind.u64.wrap ((qb : Nat) : Int) = (qb : Int) := w64 qb (by rw [hqb]; exact Nat.lt_of_le_of_lt (Nat.div_le_self _ _) bV)
    have HE2 := Lib.hid hE
    clear hqb hrb hE
    rename_i hKK
    refine hKK _ _ ?_
    go_upto_block 2 with fail
    go_cut [16, 18] from 102 to 120 (fun t p wx => p = .int .u64 (C / Y : Nat) ∧ (∃ z : Nat, t = .int .u64 z) ∧ wx = w)
    case first =>
      go_wp2_with fail
      go_loop [18, 16] (fun p t => ∃ q r : Nat, p = .int .u64 q ∧ t = .int .u64 r ∧ Est V y1 y0 u0 q r ∧ r < 4294967296) (fun p _ => (intOf p).toNat)
      case atStart => exact ⟨qb, rb, rfl, rfl, HE2.out, hr1⟩
      case round =>
        obtain ⟨q, r, rfl, rfl, hE, hr⟩ := hrel
        have hqle := hE.le
        have ewm : q < 4294967296 → IntKind.u64.wrap ((q : Int) * (y0 : Int)) = ((q * y0 : Nat) : Int) := by
          intro h
          have : q * y0 ≤ 4294967296 * 4294967295 := Nat.mul_le_mul (by omega) (by omega)
          rw [← Int.natCast_mul]; exact w64 _ (by omega)
        have ewr : IntKind.u64.wrap (4294967296 * (r : Int)) = ((4294967296 * r : Nat) : Int) := by
          rw [show 4294967296 * (r : Int) = ((4294967296 * r : Nat) : Int) from (Int.natCast_mul 4294967296 r).symm]; exact w64 _ (by omega)
        have ewa : IntKind.u64.wrap (((4294967296 * r : Nat) : Int) + (u0 : Int)) = ((4294967296 * r + u0 : Nat) : Int) := by
          rw [← Int.natCast_add]; exact w64 _ (by omega)
        have ewd : 0 < q → IntKind.u64.wrap ((q : Int) - 1) = ((q - 1 : Nat) : Int) := by
          intro h
          rw [show (q : Int) - 1 = ((q - 1 : Nat) : Int) by omega]; exact w64 _ (by omega)
        have ews : IntKind.u64.wrap ((r : Int) + (y1 : Int)) = ((r + y1 : Nat) : Int) := by
          rw [← Int.natCast_add]; exact w64 _ (by omega)
        have HM := Lib.hid ewm
        have HD := Lib.hid ewd
        have HS := Lib.hid ews
        have HE := Lib.hid hE
        clear ewm ewd ews hE hqle
        obtain ⟨rb, hrb⟩ : ∃ rb, rb = 4294967296 * r + u0 := ⟨_, rfl⟩
        obtain ⟨ra, hra⟩ : ∃ ra, ra = 4294967296 * r := ⟨_, rfl⟩
        rw [← hrb] at ewa
        rw [← hra] at ewr ewa
        have HRB := Lib.hid hrb
        have hYU : V < y1 * 4294967296 + y0 := by have := GV.out; have := GYE.out; omega
        have HYU := Lib.hid hYU
        clear hYU hrb hra
        by_cases hq : 4294967296 ≤ q
        · obtain ⟨e1, e2, e3⟩ := HE.out.down HYU.out bu0 (.inl hq)
          have ewd := HD.out e1
          have ews := HS.out
          have hq2 : q - 1 < q := by omega
          generalize q - 1 = q2 at *
          generalize r + y1 = r2 at *
          have dq := @decide_eq_true ((4294967296 : Int) ≤ (q : Int)) _ (by omega)
          have dq2 := @decide_eq_true ((4294967296 : Nat) ≤ q) _ hq
          by_cases hb : 4294967296 ≤ r2
          · have hd := e2.broke (by omega) by0 e3 hb
            have HD2 := Lib.hid hd
            have db := @decide_eq_true ((4294967296 : Int) ≤ (r2 : Int)) _ (by omega)
            have db2 := @decide_eq_true ((4294967296 : Nat) ≤ r2) _ hb
            clear hd e1 e2 e3 hb hq2 hq hr
            go_wp2_with fail
            go_meet
            case rel => exact ⟨by rw [GC2.out, GYE.out, HD2.out], ⟨_, rfl⟩, rfl⟩
          · have hb2 : r2 < 4294967296 := by omega
            have H2 := Lib.hid e2
            have H3 := Lib.hid hq2
            have HB2 := Lib.hid hb2
            have db := @decide_eq_false ((4294967296 : Int) ≤ (r2 : Int)) _ (by omega)
            have db2 := @decide_eq_false ((4294967296 : Nat) ≤ r2) _ hb
            clear e1 e2 e3 hq2 hb hb2 hq hr
            go_wp2_with fail
            go_round
            case rel => exact ⟨q2, r2, rfl, rfl, H2.out, HB2.out⟩
            case measure => have h3 := H3.out; simp [intOf]; omega
        · have hq1 : q < 4294967296 := by omega
          have ewm := HM.out hq1
          by_cases ht : rb < q * y0
          · obtain ⟨e1, e2, e3⟩ := HE.out.down HYU.out bu0 (.inr (by have := HRB.out; omega))
            have ewd := HD.out e1
            have ews := HS.out
            have hq2 : q - 1 < q := by omega
            generalize q * y0 = qy at *
            generalize q - 1 = q2 at *
            generalize r + y1 = r2 at *
            have dq := @decide_eq_false ((4294967296 : Int) ≤ (q : Int)) _ (by omega)
            have dq2 := @decide_eq_false ((4294967296 : Nat) ≤ q) _ hq
            have dt := @decide_eq_true ((rb : Int) < (qy : Int)) _ (by omega)
            have dt2 := @decide_eq_true (rb < qy) _ ht
            by_cases hb : 4294967296 ≤ r2
            · have hd := e2.broke (by omega) by0 e3 hb
              have HD2 := Lib.hid hd
              have db := @decide_eq_true ((4294967296 : Int) ≤ (r2 : Int)) _ (by omega)
              have db2 := @decide_eq_true ((4294967296 : Nat) ≤ r2) _ hb
              clear hd e1 e2 e3 hb hq2 hq hq1 ht hr
              go_wp2_with fail
              go_meet
              case rel => exact ⟨by rw [GC2.out, GYE.out, HD2.out], ⟨_, rfl⟩, rfl⟩
            · have hb2 : r2 < 4294967296 := by omega
              have H2 := Lib.hid e2
              have H3 := Lib.hid hq2
              have HB2 := Lib.hid hb2
              have db := @decide_eq_false ((4294967296 : Int) ≤ (r2 : Int)) _ (by omega)
              have db2 := @decide_eq_false ((4294967296 : Nat) ≤ r2) _ hb
              clear e1 e2 e3 hq2 hb hb2 hq hq1 ht hr
              go_wp2_with fail
              go_round
              case rel => exact ⟨q2, r2, rfl, rfl, H2.out, HB2.out⟩
              case measure => have h3 := H3.out; simp [intOf]; omega
          · have hd := HE.out.last (by omega) (show q * y0 ≤ r * 4294967296 + u0 by have := HRB.out; omega)
            have HD2 := Lib.hid hd
            clear hd
            generalize q * y0 = qy at *
            have dq := @decide_eq_false ((4294967296 : Int) ≤ (q : Int)) _ (by omega)
            have dq2 := @decide_eq_false ((4294967296 : Nat) ≤ q) _ hq
            have dt := @decide_eq_false ((rb : Int) < (qy : Int)) _ (by omega)
            have dt2 := @decide_eq_false (rb < qy) _ ht
            clear hq hq1 ht hr
            go_wp2_with fail
            go_meet
            case rel => exact ⟨by rw [GC2.out, GYE.out, HD2.out], ⟨_, rfl⟩, rfl⟩
    case rest =>
    obtain ⟨rfl, ⟨r9, rfl⟩, hwx⟩ := hcut
    obtain rfl := hwx.symm
    clear eq1 er1 ewq HE2 hr1 er2
    obtain ⟨q0, hq0⟩ : ∃ q, q = C / Y := ⟨_, rfl⟩
    obtain ⟨R, hR⟩ : ∃ R, R = C % Y := ⟨_, rfl⟩
    obtain ⟨R2, hR2⟩ : ∃ R2, R2 = R / 2 ^ s := ⟨_, rfl⟩
    obtain ⟨q3, hq3⟩ : ∃ q3, q3 = q1 * 4294967296 + q0 := ⟨_, rfl⟩
    have b0 : q0 < 4294967296 := by rw [hq0, GC2.out]; exact digit_lt GV.out bu0
    have b1 : q1 < 4294967296 := by rw [GQ1.out, GA.out]; exact digit_lt GF.out bu1
    have er4 : IntKind.u64.wrap (IntKind.u64.wrap (IntKind.u64.wrap ((V : Int) * 4294967296) + (u0 : Int)) - IntKind.u64.wrap ((q0 : Int) * (Y : Int))) = (R : Int) := by
      rw [IntKind.wrap_u64, IntKind.wrap_u64, IntKind.wrap_u64, IntKind.wrap_u64, hq0, hR, GC2.out]
      exact wrest rfl n4 (by omega)
    have er5 : IntKind.u64.wrap (IntKind.u64.wrap ((q1 : Int) * 4294967296) + (q0 : Int)) = (q3 : Int) := by
      rw [IntKind.wrap_u64, IntKind.wrap_u64, hq3]; omega
    have er6 : (R : Int) / 2 ^ s = (R2 : Int) := by
      rw [hR2, show (2 : Int) ^ s = ((2 ^ s : Nat) : Int) from by push_cast; rfl]; exact (Int.natCast_ediv _ _).symm
    rw [← hq0]
    have F1 : Hid ((A : Int) / (Y : Int) * 4294967296 + (C : Int) / (Y : Int) = (q3 : Int)) := Lib.hid (by rw [hq3, Int.natCast_add, Int.natCast_mul, hq0, GQ1.out, Int.natCast_ediv, Int.natCast_ediv]; rfl)
    have F2 : Hid ((C : Int) % (Y : Int) / 2 ^ s = (R2 : Int)) := Lib.hid (by rw [← er6, hR, Int.natCast_emod])
    clear hq0 hR hR2 hq3 b0 b1
    go_wp2_with fail
    go_ret2
    refine ⟨?_, 0, rfl⟩
    rw [F1.out, F2.out]
    rfl
end Dv
end Go.Proofs.YtfhhnajnanlmgaaGreatDoor
