/- WALK: bits.OnesCount below 64; gas.Mass. -/
import Derived.Test.YtekoldebcihdoaaDoorGsV
namespace Go.Proofs.YtekoldebcihdoaaDoor
set_option linter.unusedSimpArgs false
set_option linter.unusedVariables false
open Go.RowKit
namespace Gs
open Tld Mem
theorem sixty {v : Nat} (h : v < 64) : v = 0 ∨ v = 1 ∨ v = 2 ∨ v = 3 ∨ v = 4 ∨ v = 5 ∨ v = 6 ∨ v = 7 ∨ v = 8 ∨ v = 9 ∨ v = 10 ∨ v = 11 ∨ v = 12 ∨ v = 13 ∨ v = 14 ∨ v = 15 ∨ v = 16 ∨ v = 17 ∨ v = 18 ∨ v = 19 ∨ v = 20 ∨ v = 21 ∨ v = 22 ∨ v = 23 ∨ v = 24 ∨ v = 25 ∨ v = 26 ∨ v = 27 ∨ v = 28 ∨ v = 29 ∨ v = 30 ∨ v = 31 ∨ v = 32 ∨ v = 33 ∨ v = 34 ∨ v = 35 ∨ v = 36 ∨ v = 37 ∨ v = 38 ∨ v = 39 ∨ v = 40 ∨ v = 41 ∨ v = 42 ∨ v = 43 ∨ v = 44 ∨ v = 45 ∨ v = 46 ∨ v = 47 ∨ v = 48 ∨ v = 49 ∨ v = 50 ∨ v = 51 ∨ v = 52 ∨ v = 53 ∨ v = 54 ∨ v = 55 ∨ v = 56 ∨ v = 57 ∨ v = 58 ∨ v = 59 ∨ v = 60 ∨ v = 61 ∨ v = 62 ∨ v = 63 := by omega
def pc6 (v : Nat) : Nat := bit v 0 + bit v 1 + bit v 2 + bit v 3 + bit v 4 + bit v 5
theorem pc_le (v : Nat) : pc6 v ≤ 6 := by
  have := bit_le v 0
  have := bit_le v 1
  have := bit_le v 2
  have := bit_le v 3
  have := bit_le v 4
  have := bit_le v 5
  unfold pc6
  omega
theorem pc_4 : ∀ v, v < 16 → cw 4 v1 v = ((pc6 v : Nat) : Int) := by decide +kernel
theorem pc_6 : ∀ v, v < 64 → cw 6 v1 v = ((pc6 v : Nat) : Int) := by decide +kernel
theorem pc_K {K W H v : Nat} (h : Ok K W H) (hv : v < 2 ^ K) : cw K v1 v = ((pc6 v : Nat) : Int) := by
  rcases h.k with rfl | ⟨rfl, _⟩
  · exact pc_4 v hv
  · exact pc_6 v hv
set_option maxHeartbeats 16000000 in
theorem ones64_any {v : Nat} (hv : v < 64) (w : World) : Calls Tryd.prog 32 #[.int .u64 v] w fun e w' => e = .returned (.int .i64 (pc6 v : Nat)) ∧ w' = w := by
  rcases sixty hv with rfl | rfl | rfl | rfl | rfl | rfl | rfl | rfl | rfl | rfl | rfl | rfl | rfl | rfl | rfl | rfl | rfl | rfl | rfl | rfl | rfl | rfl | rfl | rfl | rfl | rfl | rfl | rfl | rfl | rfl | rfl | rfl | rfl | rfl | rfl | rfl | rfl | rfl | rfl | rfl | rfl | rfl | rfl | rfl | rfl | rfl | rfl | rfl | rfl | rfl | rfl | rfl | rfl | rfl | rfl | rfl | rfl | rfl | rfl | rfl | rfl | rfl | rfl | rfl
  all_goals
    go_enter Tryd.func32, Tryd.ntmps32
    go_wp2
    go_ret
    exact ⟨congrArg (fun z => Ending.returned (.int .i64 z)) (by decide +kernel), rfl⟩
theorem ones_any {v : Nat} (hv : v < 64) (w : World) : Calls Tryd.prog 26 #[.int .u64 v] w fun e w' => e = .returned (.int .i64 (pc6 v : Nat)) ∧ w' = w := by
  go_enter Tryd.func26, Tryd.ntmps26
  go_wp2_with fail
  refine (ones64_any hv w).mono ?_
  rintro e1 w1 ⟨rfl, rfl⟩
  go_wp2
  go_ret
  exact ⟨rfl, rfl⟩
/-- All particles of the first cells. -/
def massN (F : Nat → Nat) : Nat → Nat
  | 0 => 0
  | k + 1 => massN F k + pc6 (F k)
theorem massN_le (F : Nat → Nat) : ∀ k, massN F k ≤ 6 * k
  | 0 => Nat.le_refl _
  | k + 1 => by
    have h1 := massN_le F k
    have h2 := pc_le (F k)
    unfold massN
    omega
theorem massN_tot {K W H : Nat} {F : Nat → Nat} (h : Ok K W H) (hF : ∀ k, F k < 2 ^ K) : ∀ k, ((massN F k : Nat) : Int) = tot (fun j => cw K v1 (F j)) k
  | 0 => rfl
  | k + 1 => by
    have h1 := massN_tot h hF k
    unfold massN tot
    rw [← h1, pc_K h (hF k)]
    push_cast
    rfl

set_option maxHeartbeats 8000000 in
set_option maxRecDepth 1000000 in
theorem mass_ok (K W H : Nat) (a : Option Addr) (n c : Nat) (zs : List Int) (w : World) (hZ : Ints.Is w a n zs) (hf : gfault K W H zs = 0) :
    Calls Tryd.prog 10 #[gas K W H a n c] w fun e w' => e = .returned (.tuple #[.int .i64 (massN (cN zs) n : Nat), .nilIface]) ∧ Below w.heap.size w w' := by
  obtain ⟨hsd, hsh, hcl⟩ := gfault_zero hf
  rw [hZ.len] at hsh
  obtain ⟨hok, hn, hW, hH⟩ := ok_of hsd hsh
  have hn2 : n ≤ 10000 := by rw [hn]; exact Nat.mul_le_mul hW hH
  have HCR := Lib.hid (cell_rng hok hcl)
  have HK := Lib.hid (fun w2 (h : Below w.heap.size w w2) => check_any K W H a n c zs w2 (hZ.keep h))
  rw [hf, errV_zero rfl] at HK
  have HZ := Lib.hid (fun w2 (h : Below w.heap.size w w2) => hZ.keep h)
  have HFL : Hid (∀ k, cN zs k < 64) := fun k => pow_lt hok (HCR.out k).2
  have HCV : Hid (∀ k, zs.getD k 0 = ((cN zs k : Nat) : Int)) := fun k => by
    have := (HCR.out k).1
    unfold cN
    omega
  clear hZ hf hsd hsh hcl hn hok hW hH
  obtain ⟨F, hF⟩ : ∃ F, F = cN zs := ⟨_, rfl⟩
  rw [← hF] at HFL HCV ⊢
  clear hF HCR
  unfold gas at HK ⊢
  go_enter Tryd.func10, Tryd.ntmps10
  go_upto_region 1 with fail
  have hr0 : Row (w.alloc (.cells #[.int .i64 K, .int .i64 W, .int .i64 H, .slice a n c] 24)) w.heap.size 24 (boxG K W H a n c) := row_alloc w _ _
  have hb0 : Below w.heap.size w (w.alloc (.cells #[.int .i64 K, .int .i64 W, .int .i64 H, .slice a n c] 24)) := (Below.refl _ _).alloc (Nat.le_refl _) _
  have HR := Lib.hid hr0
  have HB := Lib.hid hb0
  clear hr0 hb0
  generalize w.alloc (.cells #[.int .i64 K, .int .i64 W, .int .i64 H, .slice a n c] 24) = w1 at *
  obtain ⟨g, hg⟩ : ∃ g, g = w.heap.size := ⟨_, rfl⟩
  rw [← hg] at HR ⊢
  clear hg
  have l5 := row_range HR.out
  go_wp2_with (refine wpList_load_mid rfl 24 _ rfl g 0 rfl _ _ l5 Tryd.underlying24 rfl infoGas ?_)
  refine (HK.out _ HB.out).mono ?_
  rintro e2 w2 ⟨rfl, hb2⟩
  have HR := Lib.hid (HR.out.keep hb2 HR.out.lt)
  have HB := Lib.hid (HB.out.trans (hb2.mono HB.out.size))
  clear hb2 l5 HK
  have f3 := HR.out.cell 3
  unfold boxG at f3
  dsimp only [List.getElem?_cons_succ, List.getElem?_cons_zero] at f3
  go_wp2_with fail
  clear f3
  go_loopw [5, 16] (fun u v wr => ∃ k x : Nat, k ≤ n ∧ v = .int .i64 (k : Nat) ∧ u = .int .i64 (x : Nat) ∧ x = massN F k ∧ x ≤ 6 * k ∧ Below w.heap.size w wr) (fun _ v _ => n - (RowKit.intOf v).toNat)
  case atStart => exact ⟨0, 0, Nat.zero_le _, rfl, rfl, rfl, Nat.le_refl _, HB.out⟩
  case round =>
    clear HR HB
    obtain ⟨k, x, hk, rfl, rfl, hx, hxl, hb⟩ := hrel
    have HB := Lib.hid hb
    have HX := Lib.hid hx
    clear hb hx
    by_cases hkn : k < n
    · have hk2 : (k : Int) < (n : Int) := by omega
      obtain ⟨ab, ao, rfl, _, cg⟩ := (HZ.out wr HB.out).cells k hkn
      dsimp only at cg
      rw [HCV.out k] at cg
      obtain ⟨v, hv⟩ : ∃ v, v = F k := ⟨_, rfl⟩
      rw [← hv] at cg
      have hv64 : v < 64 := by rw [hv]; exact HFL.out k
      have HO := Lib.hid (ones_any hv64 wr)
      have hpl := pc_le v
      have HNX : Hid (massN F (k + 1) = x + pc6 v) := by
        show _ = _
        rw [HX.out, hv]
        rfl
      generalize pc6 v = y at *
      have HML := massN_le F (k + 1)
      rw [HNX.out] at HML
      have HML := Lib.hid HML
      clear hv
      go_wp2_with fail
      refine HO.out.mono ?_
      rintro e3 w3 ⟨rfl, hw3⟩
      rw [hw3]
      go_wp2_with fail
      go_roundw
      case rel => exact ⟨k + 1, x + y, by omega, by go_num, by go_num, HNX.out.symm, HML.out, HB.out⟩
      case measure => simp [RowKit.intOf]; omega
    · obtain rfl : k = n := by omega
      have hnl : ¬ (k : Int) < (k : Int) := by omega
      go_wp2_with fail
      go_ret2
      exact ⟨congrArg (fun z : Nat => Ending.returned (.tuple #[.int .i64 z, .nilIface])) HX.out, HB.out⟩
set_option maxHeartbeats 2000000 in
theorem mass_bad (K W H : Int) (a : Option Addr) (n c : Nat) (zs : List Int) (w : World) (hZ : Ints.Is w a n zs) (hf : gfault K W H zs ≠ 0) :
    Calls Tryd.prog 10 #[gas K W H a n c] w fun e w' => e = .returned (.tuple #[.int .i64 0, errV (gfault K W H zs)]) ∧ Below w.heap.size w w' := by
  have HK := Lib.hid (fun w2 (h : Below w.heap.size w w2) => check_any K W H a n c zs w2 (hZ.keep h))
  rw [errV_some hf] at HK ⊢
  generalize gfault K W H zs = e at *
  clear hZ hf
  unfold gas at HK ⊢
  go_enter Tryd.func10, Tryd.ntmps10
  go_upto_region 1 with fail
  have hr0 : Row (w.alloc (.cells #[.int .i64 K, .int .i64 W, .int .i64 H, .slice a n c] 24)) w.heap.size 24 (boxG K W H a n c) := row_alloc w _ _
  have hb0 : Below w.heap.size w (w.alloc (.cells #[.int .i64 K, .int .i64 W, .int .i64 H, .slice a n c] 24)) := (Below.refl _ _).alloc (Nat.le_refl _) _
  have HB := Lib.hid hb0
  generalize w.alloc (.cells #[.int .i64 K, .int .i64 W, .int .i64 H, .slice a n c] 24) = w1 at *
  have l5 := row_range hr0
  clear hb0
  go_wp2_with (refine wpList_load_mid rfl 24 _ rfl w.heap.size 0 rfl _ _ l5 Tryd.underlying24 rfl infoGas ?_)
  refine (HK.out _ HB.out).mono ?_
  rintro e2 w2 ⟨rfl, hb2⟩
  have HB := Lib.hid (HB.out.trans (hb2.mono HB.out.size))
  clear hb2 l5 hr0 HK
  go_wp2_with fail
  go_ret2
  exact ⟨rfl, HB.out⟩
end Gs
end Go.Proofs.YtekoldebcihdoaaDoor
