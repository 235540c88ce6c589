/- WALK: gas.Check; slices.ContainsFunc with its test and with the coins'. -/
import Derived.Test.YtekoldebcihdoaaDoorGsPl
import Derived.Test.YtekoldebcihdoaaDoorChecked
import Derived.Test.YtekoldebcihdoaaDoorOps
import Derived.Test.YtekoldebcihdoaaDoorErr
import Derived.Test.YtekoldebcihdoaaDoorInts
import Derived.WalkSpells
import Derived.WalkLawsBesides
import Derived.Lib.Hide
import Derived.Deep.DeepCutAuto
import Derived.BigRegion
import Derived.BigQuiet
namespace Go.Proofs.YtekoldebcihdoaaDoor
set_option linter.unusedSimpArgs false
set_option linter.unusedVariables false
open Go.RowKit
namespace Gs
open Tld Mem

theorem int_mem {zs : List Int} {k : Nat} (h : k < zs.length) : zs.getD k 0 ∈ zs := by
  rw [List.getD_eq_getElem?_getD, List.getElem?_eq_getElem h]
  exact List.getElem_mem h
theorem any_no {zs : List Int} {p : Int → Bool} (h : ∀ k, k < zs.length → p (zs.getD k 0) = false) : zs.any p = false := by
  rw [List.any_eq_false]
  intro z hz
  obtain ⟨k, hk, rfl⟩ := List.getElem_of_mem hz
  have := h k hk
  rw [List.getD_eq_getElem?_getD, List.getElem?_eq_getElem hk] at this
  exact Bool.eq_false_iff.1 this
theorem any_yes {zs : List Int} {p : Int → Bool} {k : Nat} (hk : k < zs.length) (h : p (zs.getD k 0) = true) : zs.any p = true :=
  List.any_eq_true.2 ⟨_, int_mem hk, h⟩

/-- A gas, as a value and as a box. -/
def gas (K W H : Int) (a : Option Addr) (n c : Nat) : Value := .agg #[.int .i64 K, .int .i64 W, .int .i64 H, .slice a n c]
def boxG (K W H : Int) (a : Option Addr) (n c : Nat) : List Value := [.int .i64 K, .int .i64 W, .int .i64 H, .slice a n c]
def top (K : Int) : Int := if K = 4 then 16 else 64
def gbad (K z : Int) : Bool := decide (z < 0 ∨ top K ≤ z)
def coinbad (z : Int) : Bool := decide (z ≠ 0 ∧ z ≠ 1)
def sidesOk (K W H : Int) : Prop := (K = 4 ∨ K = 6) ∧ 1 ≤ W ∧ W ≤ 100 ∧ 1 ≤ H ∧ H ≤ 100
instance (K W H : Int) : Decidable (sidesOk K W H) := by unfold sidesOk; infer_instance
def shapeBad (K W H : Int) (n : Nat) : Prop := (K = 6 ∧ H % 2 ≠ 0) ∨ (n : Int) ≠ W * H
instance (K W H : Int) (n : Nat) : Decidable (shapeBad K W H n) := by unfold shapeBad; infer_instance
def gfault (K W H : Int) (zs : List Int) : Int := if ¬ sidesOk K W H then 1 else if shapeBad K W H zs.length then 3 else if zs.any (gbad K) = true then 1 else 0
theorem gfault_sides {K W H : Int} {zs : List Int} (h : ¬ sidesOk K W H) : gfault K W H zs = 1 := by unfold gfault; rw [if_pos h]
theorem gfault_shape {K W H : Int} {zs : List Int} (h : sidesOk K W H) (h2 : shapeBad K W H zs.length) : gfault K W H zs = 3 := by unfold gfault; rw [if_neg (fun x => x h), if_pos h2]
theorem gfault_cells {K W H : Int} {zs : List Int} (h : sidesOk K W H) (h2 : ¬ shapeBad K W H zs.length) : gfault K W H zs = if zs.any (gbad K) = true then 1 else 0 := by unfold gfault; rw [if_neg (fun x => x h), if_neg h2]

set_option maxHeartbeats 1000000 in
theorem gtest_any (K z : Int) (g : Nat) (w : World) (hK : K = 4 ∨ K = 6) (hg : w.cell? ⟨g, 0, none⟩ = some (.int .i64 K)) : Calls Tryd.prog 17 #[.int .i64 z, .pointer (some ⟨g, 0, none⟩)] w fun e w' => e = .returned (.bool (gbad K z)) ∧ w' = w := by
  rcases hK with rfl | rfl
  · go_enter Tryd.func17, Tryd.ntmps17
    by_cases h0 : z < 0
    · have h : gbad 4 z = true := by unfold gbad top; simp; omega
      rw [h]
      go_wp2
      go_ret
      exact ⟨rfl, rfl⟩
    · by_cases h1 : 16 ≤ z
      · have h : gbad 4 z = true := by unfold gbad top; simp; omega
        rw [h]
        go_wp2
        go_ret
        exact ⟨rfl, rfl⟩
      · have h : gbad 4 z = false := by unfold gbad top; simp; omega
        rw [h]
        go_wp2
        go_ret
        exact ⟨rfl, rfl⟩
  · go_enter Tryd.func17, Tryd.ntmps17
    by_cases h0 : z < 0
    · have h : gbad 6 z = true := by unfold gbad top; simp; omega
      rw [h]
      go_wp2
      go_ret
      exact ⟨rfl, rfl⟩
    · by_cases h1 : 64 ≤ z
      · have h : gbad 6 z = true := by unfold gbad top; simp; omega
        rw [h]
        go_wp2
        go_ret
        exact ⟨rfl, rfl⟩
      · have h : gbad 6 z = false := by unfold gbad top; simp; omega
        rw [h]
        go_wp2
        go_ret
        exact ⟨rfl, rfl⟩
set_option maxHeartbeats 1000000 in
theorem coin_any (z : Int) (w : World) : Calls Tryd.prog 19 #[.int .i64 z] w fun e w' => e = .returned (.bool (coinbad z)) ∧ w' = w := by
  go_enter Tryd.func19, Tryd.ntmps19
  by_cases h0 : z = 0
  · subst h0
    have : coinbad 0 = false := by decide
    rw [this]
    go_wp2
    go_ret
    exact ⟨rfl, rfl⟩
  · by_cases h1 : z = 1
    · subst h1
      have : coinbad 1 = false := by decide
      rw [this]
      go_wp2
      go_ret
      exact ⟨rfl, rfl⟩
    · have h2 : coinbad z = true := by unfold coinbad; simp; omega
      have h3 : (z != 0) = true := by rw [bne_iff_ne]; exact h0
      have h4 : (z != 1) = true := by rw [bne_iff_ne]; exact h1
      rw [h2]
      go_wp2
      go_ret
      exact ⟨rfl, rfl⟩
set_option maxHeartbeats 2000000 in
theorem gindex_any (K : Int) (g : Nat) (sa : Option Addr) (sn sc : Nat) (zs : List Int) (w : World) (hZ : Ints.Is w sa sn zs) (hK : K = 4 ∨ K = 6) (hg : w.cell? ⟨g, 0, none⟩ = some (.int .i64 K)) :
    Calls Tryd.prog 28 #[.slice sa sn sc, .func (.func 17) #[] #[.pointer (some ⟨g, 0, none⟩)]] w fun e w' => (∃ j : Int, e = .returned (.int .i64 j) ∧ decide (0 ≤ j) = zs.any (gbad K)) ∧ w' = w := by
  have HG := Lib.hid (fun z => gtest_any K z g w hK hg)
  have hs := hZ.le
  unfold maxLen at hs
  have HZ := Lib.hid hZ
  clear hZ hg hK
  obtain ⟨pr, hpr⟩ : ∃ pr : Int → Bool, pr = gbad K := ⟨_, rfl⟩
  rw [← hpr] at HG ⊢
  clear hpr
  go_enter Tryd.func28, Tryd.ntmps28
  go_wp2
  go_loop [8] (fun v => ∃ i : Nat, i ≤ sn ∧ v = .int .i64 i ∧ (∀ k, k < i → pr (zs.getD k 0) = false)) (fun v => sn - (RowKit.intOf v).toNat)
  case atStart => exact ⟨0, Nat.zero_le _, rfl, fun k hk => absurd hk (Nat.not_lt_zero _)⟩
  case round =>
    obtain ⟨i, hi, rfl, hok⟩ := hrel
    have HOK := Lib.hid hok
    clear hok
    by_cases hlt : i < sn
    · obtain ⟨b, off', rfl, hbl, hc⟩ := HZ.out.cells i hlt
      dsimp only at hc
      have HY := Lib.hid (fun h => any_yes (zs := zs) (p := pr) (k := i) (by rw [HZ.out.len]; exact hlt) h)
      have HOK2 : Hid (pr (zs.getD i 0) = false → ∀ k, k < i + 1 → pr (zs.getD k 0) = false) := fun h k hk => by
        by_cases hki : k = i
        · subst hki; exact h
        · exact HOK.out k (by omega)
      have HG2 := Lib.hid (HG.out (zs.getD i 0))
      generalize hz : zs.getD i 0 = z at *
      clear hz
      generalize hp : pr z = q at *
      clear hp
      go_wp2_with fail
      refine HG2.out.mono ?_
      rintro e1 w1 ⟨rfl, hw1⟩
      rw [hw1]
      cases q
      · go_wp2_with fail
        go_round
        case rel => exact ⟨i + 1, by omega, by go_num, HOK2.out (by first | rfl | trivial)⟩
        case measure => simp [RowKit.intOf]; omega
      · go_wp2_with fail
        go_ret
        exact ⟨⟨i, rfl, by rw [HY.out (by first | rfl | trivial)]; simp⟩, rfl⟩
    · have HN := Lib.hid (any_no (zs := zs) (p := pr) fun k hk => HOK.out k (by rw [HZ.out.len] at hk; omega))
      go_wp2
      go_ret
      exact ⟨⟨-1, rfl, by rw [HN.out]; rfl⟩, rfl⟩
theorem gcontains_any (K : Int) (g : Nat) (sa : Option Addr) (sn sc : Nat) (zs : List Int) (w : World) (hZ : Ints.Is w sa sn zs) (hK : K = 4 ∨ K = 6) (hg : w.cell? ⟨g, 0, none⟩ = some (.int .i64 K)) :
    Calls Tryd.prog 16 #[.slice sa sn sc, .func (.func 17) #[] #[.pointer (some ⟨g, 0, none⟩)]] w fun e w' => e = .returned (.bool (zs.any (gbad K))) ∧ w' = w := by
  have HI := Lib.hid (gindex_any K g sa sn sc zs w hZ hK hg)
  clear hZ hK hg
  generalize zs.any (gbad K) = q at *
  go_enter Tryd.func16, Tryd.ntmps16
  go_wp2_with fail
  refine HI.out.mono ?_
  rintro e1 w1 ⟨⟨j, rfl, hj⟩, rfl⟩
  have HJ := Lib.hid hj
  clear hj
  go_wp2
  go_ret
  exact ⟨congrArg (fun b => Ending.returned (.bool b)) HJ.out, rfl⟩
set_option maxHeartbeats 2000000 in
theorem cindex_any  (sa : Option Addr) (sn sc : Nat) (zs : List Int) (w : World) (hZ : Ints.Is w sa sn zs)  :
    Calls Tryd.prog 28 #[.slice sa sn sc, .func (.func 19) #[] #[]] w fun e w' => (∃ j : Int, e = .returned (.int .i64 j) ∧ decide (0 ≤ j) = zs.any (coinbad)) ∧ w' = w := by
  have HG := Lib.hid (fun z => coin_any z w)
  have hs := hZ.le
  unfold maxLen at hs
  have HZ := Lib.hid hZ
  clear hZ
  obtain ⟨pr, hpr⟩ : ∃ pr : Int → Bool, pr = coinbad := ⟨_, rfl⟩
  rw [← hpr] at HG ⊢
  clear hpr
  go_enter Tryd.func28, Tryd.ntmps28
  go_wp2
  go_loop [8] (fun v => ∃ i : Nat, i ≤ sn ∧ v = .int .i64 i ∧ (∀ k, k < i → pr (zs.getD k 0) = false)) (fun v => sn - (RowKit.intOf v).toNat)
  case atStart => exact ⟨0, Nat.zero_le _, rfl, fun k hk => absurd hk (Nat.not_lt_zero _)⟩
  case round =>
    obtain ⟨i, hi, rfl, hok⟩ := hrel
    have HOK := Lib.hid hok
    clear hok
    by_cases hlt : i < sn
    · obtain ⟨b, off', rfl, hbl, hc⟩ := HZ.out.cells i hlt
      dsimp only at hc
      have HY := Lib.hid (fun h => any_yes (zs := zs) (p := pr) (k := i) (by rw [HZ.out.len]; exact hlt) h)
      have HOK2 : Hid (pr (zs.getD i 0) = false → ∀ k, k < i + 1 → pr (zs.getD k 0) = false) := fun h k hk => by
        by_cases hki : k = i
        · subst hki; exact h
        · exact HOK.out k (by omega)
      have HG2 := Lib.hid (HG.out (zs.getD i 0))
      generalize hz : zs.getD i 0 = z at *
      clear hz
      generalize hp : pr z = q at *
      clear hp
      go_wp2_with fail
      refine HG2.out.mono ?_
      rintro e1 w1 ⟨rfl, hw1⟩
      rw [hw1]
      cases q
      · go_wp2_with fail
        go_round
        case rel => exact ⟨i + 1, by omega, by go_num, HOK2.out (by first | rfl | trivial)⟩
        case measure => simp [RowKit.intOf]; omega
      · go_wp2_with fail
        go_ret
        exact ⟨⟨i, rfl, by rw [HY.out (by first | rfl | trivial)]; simp⟩, rfl⟩
    · have HN := Lib.hid (any_no (zs := zs) (p := pr) fun k hk => HOK.out k (by rw [HZ.out.len] at hk; omega))
      go_wp2
      go_ret
      exact ⟨⟨-1, rfl, by rw [HN.out]; rfl⟩, rfl⟩
theorem ccontains_any  (sa : Option Addr) (sn sc : Nat) (zs : List Int) (w : World) (hZ : Ints.Is w sa sn zs)  :
    Calls Tryd.prog 16 #[.slice sa sn sc, .func (.func 19) #[] #[]] w fun e w' => e = .returned (.bool (zs.any (coinbad))) ∧ w' = w := by
  have HI := Lib.hid (cindex_any sa sn sc zs w hZ)
  clear hZ
  generalize zs.any (coinbad) = q at *
  go_enter Tryd.func16, Tryd.ntmps16
  go_wp2_with fail
  refine HI.out.mono ?_
  rintro e1 w1 ⟨⟨j, rfl, hj⟩, rfl⟩
  have HJ := Lib.hid hj
  clear hj
  go_wp2
  go_ret
  exact ⟨congrArg (fun b => Ending.returned (.bool b)) HJ.out, rfl⟩
theorem nsides {K W H : Int} (h : ¬ sidesOk K W H) : decide (¬ sidesOk K W H) = true := decide_eq_true h
theorem ysides {K W H : Int} (h : sidesOk K W H) : decide (¬ sidesOk K W H) = false := decide_eq_false (fun x => x h)
set_option maxHeartbeats 4000000 in
set_option maxRecDepth 1000000 in
theorem check_any (K W H : Int) (a : Option Addr) (n c : Nat) (zs : List Int) (w : World) (hZ : Ints.Is w a n zs) :
    Calls Tryd.prog 5 #[gas K W H a n c] w fun e w' => e = .returned (errV (gfault K W H zs)) ∧ Below w.heap.size w w' := by
  have hs := hZ.le
  unfold maxLen at hs
  have HZ : Hid (∀ w2, Below w.heap.size w w2 → Ints.Is w2 a n zs) := Lib.hid (fun w2 h => hZ.keep h)
  have HLN := Lib.hid hZ.len
  clear hZ
  unfold gas
  go_enter Tryd.func5, Tryd.ntmps5
  go_upto_region 1 with fail
  have hr0 : Row (w.alloc (.cells #[.int .i64 K, .int .i64 W, .int .i64 H, .slice a n c] 24)) w.heap.size 24 (boxG K W H a n c) := row_alloc w _ _
  have hb0 : Below w.heap.size w (w.alloc (.cells #[.int .i64 K, .int .i64 W, .int .i64 H, .slice a n c] 24)) := (Below.refl _ _).alloc (Nat.le_refl _) _
  have HR := Lib.hid hr0
  have HB := Lib.hid hb0
  clear hr0 hb0
  generalize w.alloc (.cells #[.int .i64 K, .int .i64 W, .int .i64 H, .slice a n c] 24) = w1 at *
  obtain ⟨g, hg⟩ : ∃ g, g = w.heap.size := ⟨_, rfl⟩
  rw [← hg] at HR ⊢
  clear hg
  have f0 := HR.out.cell 0
  have f1 := HR.out.cell 1
  have f2 := HR.out.cell 2
  have f3 := HR.out.cell 3
  unfold boxG at f0 f1 f2 f3
  dsimp only [List.getElem?_cons_succ, List.getElem?_cons_zero] at f0 f1 f2 f3
  go_cut [3] (fun v wx => v = .bool (decide (¬ sidesOk K W H)) ∧ wx = w1)
  case first =>
    have hno : ∀ x : Int, ¬ x = 4 → (x == 4) = false := fun x h => beq_eq_false_iff_ne.2 h
    by_cases k4 : K = 4
    · --{k4
      subst k4
      by_cases w1 : W < 1
      · have HH : Hid (¬ sidesOk 4 W H) := Lib.hid (fun h => by obtain ⟨_, e1, e2, e3, e4⟩ := h; omega)
        go_wp2_with fail
        go_meet
        case rel => exact ⟨congrArg Value.bool (nsides HH.out).symm, rfl⟩
      by_cases w2 : 100 < W
      · have HH : Hid (¬ sidesOk 4 W H) := Lib.hid (fun h => by obtain ⟨_, e1, e2, e3, e4⟩ := h; omega)
        go_wp2_with fail
        go_meet
        case rel => exact ⟨congrArg Value.bool (nsides HH.out).symm, rfl⟩
      by_cases h1 : H < 1
      · have HH : Hid (¬ sidesOk 4 W H) := Lib.hid (fun h => by obtain ⟨_, e1, e2, e3, e4⟩ := h; omega)
        go_wp2_with fail
        go_meet
        case rel => exact ⟨congrArg Value.bool (nsides HH.out).symm, rfl⟩
      by_cases h2 : 100 < H
      · have HH : Hid (¬ sidesOk 4 W H) := Lib.hid (fun h => by obtain ⟨_, e1, e2, e3, e4⟩ := h; omega)
        go_wp2_with fail
        go_meet
        case rel => exact ⟨congrArg Value.bool (nsides HH.out).symm, rfl⟩
      have HH : Hid (sidesOk 4 W H) := Lib.hid ⟨by omega, by omega, by omega, by omega, by omega⟩
      go_wp2_with fail
      go_meet
      case rel => exact ⟨congrArg Value.bool (ysides HH.out).symm, rfl⟩
      --}
    by_cases k6 : K = 6
    · --{k6
      subst k6
      by_cases w1 : W < 1
      · have HH : Hid (¬ sidesOk 6 W H) := Lib.hid (fun h => by obtain ⟨_, e1, e2, e3, e4⟩ := h; omega)
        go_wp2_with fail
        go_meet
        case rel => exact ⟨congrArg Value.bool (nsides HH.out).symm, rfl⟩
      by_cases w2 : 100 < W
      · have HH : Hid (¬ sidesOk 6 W H) := Lib.hid (fun h => by obtain ⟨_, e1, e2, e3, e4⟩ := h; omega)
        go_wp2_with fail
        go_meet
        case rel => exact ⟨congrArg Value.bool (nsides HH.out).symm, rfl⟩
      by_cases h1 : H < 1
      · have HH : Hid (¬ sidesOk 6 W H) := Lib.hid (fun h => by obtain ⟨_, e1, e2, e3, e4⟩ := h; omega)
        go_wp2_with fail
        go_meet
        case rel => exact ⟨congrArg Value.bool (nsides HH.out).symm, rfl⟩
      by_cases h2 : 100 < H
      · have HH : Hid (¬ sidesOk 6 W H) := Lib.hid (fun h => by obtain ⟨_, e1, e2, e3, e4⟩ := h; omega)
        go_wp2_with fail
        go_meet
        case rel => exact ⟨congrArg Value.bool (nsides HH.out).symm, rfl⟩
      have HH : Hid (sidesOk 6 W H) := Lib.hid ⟨by omega, by omega, by omega, by omega, by omega⟩
      go_wp2_with fail
      go_meet
      case rel => exact ⟨congrArg Value.bool (ysides HH.out).symm, rfl⟩
      --}
    have HH : Hid (¬ sidesOk K W H) := Lib.hid (fun h => by have := h.1; omega)
    have q4 : (K != 4) = true := by rw [bne_iff_ne]; exact k4
    have q6 : (K != 6) = true := by rw [bne_iff_ne]; exact k6
    go_wp2_with fail
    go_meet
    case rel => exact ⟨congrArg Value.bool (nsides HH.out).symm, rfl⟩
  case rest =>
    obtain ⟨rfl, hwx⟩ := hcut
    rw [hwx]
    by_cases hsd : sidesOk K W H
    · --{ok
      rw [ysides hsd]
      have HSD := Lib.hid hsd
      clear hsd
      obtain ⟨q, hq⟩ : ∃ q, q = decide (shapeBad K W H n) := ⟨_, rfl⟩
      have HQ := Lib.hid hq
      clear hq
      go_upto_region 3 with fail
      go_cut [33] (fun v wx => v = .bool q ∧ wx = w1)
      case first =>
        obtain ⟨hk, hw1, hw2, hh1, hh2⟩ := HSD.out
        have hp0 : 0 ≤ W * H := Int.mul_nonneg (by omega) (by omega)
        have hp1 : W * H ≤ 100 * 100 := Int.mul_le_mul hw2 hh2 (by omega) (by omega)
        obtain ⟨x, hx⟩ : ∃ x, x = W * H := ⟨_, rfl⟩
        have hwr : IntKind.i64.wrap (W * H) = x := by rw [IntKind.wrap_i64, ← hx]; omega
        have hwr2 : wrap64 (W * H) = x := by unfold wrap64; rw [← hx]; omega
        have HX := Lib.hid hx
        have HQT : Hid (shapeBad K W H n → q = true) := fun h => by rw [HQ.out]; exact decide_eq_true h
        have HQF : Hid (¬ shapeBad K W H n → q = false) := fun h => by rw [HQ.out]; exact decide_eq_false h
        clear hp0 hp1 hx
        have hodd : H.tmod 2 = H % 2 := Int.tmod_eq_emod_of_nonneg (by omega)
        by_cases hn : (n : Int) = x
        · have hn1 : ((n : Int) != x) = false := by rw [hn]; simp
          rcases hk with rfl | rfl
          · have HF : Hid (q = false) := by exact HQF.out (by unfold shapeBad; rw [← HX.out]; omega)
            clear hn hodd
            go_wp2_with fail
            go_meet
            case rel => exact ⟨congrArg Value.bool HF.out.symm, rfl⟩
          · by_cases ho : H % 2 = 0
            · have HF : Hid (q = false) := by exact HQF.out (by unfold shapeBad; rw [← HX.out]; omega)
              have hm : H.tmod 2 = 0 := by rw [hodd, ho]
              clear hn hodd ho
              go_wp2_with fail
              go_meet
              case rel => exact ⟨congrArg Value.bool HF.out.symm, rfl⟩
            · have HF : Hid (q = true) := by exact HQT.out (by unfold shapeBad; rw [← HX.out]; omega)
              have hm : H.tmod 2 = 1 := by rw [hodd]; omega
              clear hn hodd ho
              go_wp2_with fail
              go_meet
              case rel => exact ⟨congrArg Value.bool HF.out.symm, rfl⟩
        · have hn1 : ((n : Int) != x) = true := by rw [bne_iff_ne]; exact hn
          have HF : Hid (q = true) := by exact HQT.out (.inr (by rw [← HX.out]; exact hn))
          rcases hk with rfl | rfl
          · clear hn hodd
            go_wp2_with fail
            go_meet
            case rel => exact ⟨congrArg Value.bool HF.out.symm, rfl⟩
          · by_cases ho : H % 2 = 0
            · have hm : H.tmod 2 = 0 := by rw [hodd, ho]
              clear hn hodd ho
              go_wp2_with fail
              go_meet
              case rel => exact ⟨congrArg Value.bool HF.out.symm, rfl⟩
            · have hm : H.tmod 2 = 1 := by rw [hodd]; omega
              clear hn hodd ho
              go_wp2_with fail
              go_meet
              case rel => exact ⟨congrArg Value.bool HF.out.symm, rfl⟩
      case rest =>
        obtain ⟨rfl, hwx⟩ := hcut
        rw [hwx]
        cases q
        · have HNB : Hid (¬ shapeBad K W H zs.length) := by
            show ¬ _
            rw [HLN.out]
            exact of_decide_eq_false HQ.out.symm
          have HG := Lib.hid (gcontains_any K g a n c zs w1 (HZ.out w1 HB.out) HSD.out.1 f0)
          have HE := Lib.hid (gfault_cells HSD.out HNB.out)
          generalize zs.any (gbad K) = q at *
          go_wp2_with fail
          refine HG.out.mono ?_
          rintro e1 w2 ⟨rfl, rfl⟩
          cases q
          · go_wp2_with fail
            go_ret
            exact ⟨congrArg Ending.returned (errV_nil (by rw [HE.out]; rfl)), HB.out⟩
          · go_wp2_with fail
            go_ret
            exact ⟨congrArg Ending.returned (errV_mk (by rw [HE.out]; rfl) (by decide)), HB.out⟩
        · have HE := Lib.hid (gfault_shape HSD.out (by rw [HLN.out]; exact of_decide_eq_true HQ.out.symm))
          go_wp2_with fail
          go_ret
          exact ⟨congrArg Ending.returned (errV_mk HE.out (by decide)), HB.out⟩
      --}
    · --{no
      rw [nsides hsd]
      have HE := Lib.hid (gfault_sides (zs := zs) hsd)
      clear hsd
      go_wp2_with fail
      go_ret
      exact ⟨congrArg Ending.returned (errV_mk HE.out (by decide)), HB.out⟩
      --}
  end Gs
  end Go.Proofs.YtekoldebcihdoaaDoor
