/- WALK: the document's middle, and key. -/
import Derived.Test.YthipeeagpllfeaaDoorPpPl
import Derived.Test.YthipeeagpllfeaaDoorPnD
import Derived.Test.YthipeeagpllfeaaDoorPnE
namespace Go.Proofs.YthipeeagpllfeaaDoor
set_option linter.unusedSimpArgs false
set_option linter.unusedVariables false
open Go.RowKit
namespace Pn
open Tld Mem Bl

/-- The neighbours of the cell x + 1, y + 1, the first k of nine. -/
def mS (g : Nat → Nat) (w x y : Nat) : Nat → Nat
  | 0 => 0
  | k + 1 => mS g w x y k + if k = 4 then 0 else g ((y + k / 3) * w + x + k % 3)
theorem mS_le {g : Nat → Nat} {w x y : Nat} (hg : ∀ j, g j < 2) : ∀ k, mS g w x y k ≤ k
  | 0 => Nat.le_refl _
  | k + 1 => by
    have h1 := mS_le (w := w) (x := x) (y := y) hg k
    have h2 := hg ((y + k / 3) * w + x + k % 3)
    show mS g w x y k + (if k = 4 then 0 else _) ≤ k + 1
    split <;> omega
/-- What becomes of it. -/
def midV (B S : Nat) (g : Nat → Nat) (w x y : Nat) : Nat := bec B S (g ((y + 1) * w + x + 1)) (mS g w x y 9)
theorem midV_lt (B S : Nat) (g : Nat → Nat) (w x y : Nat) : midV B S g w x y < 2 := bec_lt _ _ _ _
theorem md_at {wd x y k qn : Nat} (hk : k < 9) (hi : (y + 2) * wd + x + 2 < qn) : (y + k / 3) * wd + x + k % 3 < qn := by
  have h1 : y + k / 3 ≤ y + 2 := by omega
  have h2 := Nat.mul_le_mul_right wd h1
  omega
theorem md_nums {wd x y k qn : Nat} (hk : k < 9) (hi : (y + 2) * wd + x + 2 < qn) (hq : qn ≤ 1000) (hy : y ≤ 1000) : ∃ k3 km y1 y2 x1 i : Nat, i = (y + k / 3) * wd + x + k % 3 ∧ i < qn ∧
    (k : Int).tdiv 3 = (k3 : Int) ∧ wrap64 (k3 : Int) = (k3 : Int) ∧ wrap64 ((y : Int) + (k3 : Int)) = (y1 : Int) ∧ wrap64 ((y1 : Int) * (wd : Int)) = (y2 : Int) ∧ wrap64 ((y2 : Int) + (x : Int)) = (x1 : Int) ∧ (k : Int).tmod 3 = (km : Int) ∧ wrap64 ((x1 : Int) + (km : Int)) = (i : Int) := by
  have h := md_at hk hi
  refine ⟨k / 3, k % 3, y + k / 3, (y + k / 3) * wd, (y + k / 3) * wd + x, _, rfl, h, Int.ofNat_tdiv _ _, wr_nat rfl (by omega), wr_nat (by push_cast; rfl) (by omega), wr_nat (by push_cast; rfl) (by omega), wr_nat (by push_cast; rfl) (by omega), Int.ofNat_tmod _ _, wr_nat (by push_cast; rfl) (by omega)⟩
theorem md_mid {wd x y qn : Nat} (hi : (y + 2) * wd + x + 2 < qn) (hq : qn ≤ 1000) (hy : y ≤ 1000) : ∃ y1 y2 x1 i : Nat, i = (y + 1) * wd + x + 1 ∧ i < qn ∧
    wrap64 ((y : Int) + 1) = (y1 : Int) ∧ wrap64 ((y1 : Int) * (wd : Int)) = (y2 : Int) ∧ wrap64 ((y2 : Int) + (x : Int)) = (x1 : Int) ∧ wrap64 ((x1 : Int) + 1) = (i : Int) := by
  have h2 : (y + 1) * wd ≤ (y + 2) * wd := Nat.mul_le_mul_right wd (by omega)
  refine ⟨y + 1, (y + 1) * wd, (y + 1) * wd + x, _, rfl, by omega, wr_nat (by push_cast; rfl) (by omega), wr_nat (by push_cast; rfl) (by omega), wr_nat (by push_cast; rfl) (by omega), wr_nat (by push_cast; rfl) (by omega)⟩
theorem lstN_at {n i : Nat} {g : Nat → Nat} (hi : i < n) : (lstN n g).getD i 0 = ((g i : Nat) : Int) := by
  unfold lstN
  rw [List.getD_eq_getElem?_getD, List.getElem?_map, List.getElem?_range hi]
  rfl

set_option maxHeartbeats 8000000 in
set_option maxRecDepth 1000000 in
theorem middle_any (K st ra : Int) (B S : Nat) (ta : Option Addr) (tn tc : Nat) (tu : ByteArray) (wd : Nat) (hd : Int) (qa : Option Addr) (qn qc : Nat) (g : Nat → Nat) (x y : Nat) (w : World) (hBS : B < 512) (hSS : S < 512) (hZ : Ints.Is w qa qn (lstN qn g)) (hg : ∀ j, g j < 2) (hi : (y + 2) * wd + x + 2 < qn) (hq : qn ≤ 1000) (hy : y ≤ 1000) :
    Calls Tryd.prog 21 #[.agg #[.int .i64 K, .int .i64 B, .int .i64 S, .int .i64 st, .int .i64 ra, .slice ta tn tc, .string tu], .agg #[.int .i64 (wd : Nat), .int .i64 hd, .slice qa qn qc], .int .i64 (x : Nat), .int .i64 (y : Nat)] w fun e w' => e = .returned (.int .i64 (midV B S g wd x y : Nat)) ∧ Below w.heap.size w w' := by
  have HBE := Lib.hid (fun (c n : Nat) (w2 : World) (hn : n < 64) (hc : c < 2) => rbecomes_any K st ra B S ta tn tc tu c n w2 hBS hSS hn hc)
  have HZ := Lib.hid (fun w2 (h : Below w.heap.size w w2) => hZ.keep h)
  have HG := Lib.hid hg
  have HI := Lib.hid hi
  have HQ := Lib.hid hq
  have HY := Lib.hid hy
  clear hBS hSS hZ hg hi hq hy
  go_enter Tryd.func21, Tryd.ntmps21
  go_upto_region 1 with fail
  obtain ⟨hr1, hr2, hb2⟩ := two_new w 24 26 (rulP K B S st ra ta tn tc tu) (boxP (wd : Nat) hd qa qn qc)
  have HU : Hid (Row ((w.alloc (.cells #[.int .i64 K, .int .i64 B, .int .i64 S, .int .i64 st, .int .i64 ra, .slice ta tn tc, .string tu] 24)).alloc (.cells #[.int .i64 (wd : Nat), .int .i64 hd, .slice qa qn qc] 26)) w.heap.size 24 (rulP K B S st ra ta tn tc tu)) := hr1
  have HP : Hid (Row ((w.alloc (.cells #[.int .i64 K, .int .i64 B, .int .i64 S, .int .i64 st, .int .i64 ra, .slice ta tn tc, .string tu] 24)).alloc (.cells #[.int .i64 (wd : Nat), .int .i64 hd, .slice qa qn qc] 26)) (w.heap.size + 1) 26 (boxP (wd : Nat) hd qa qn qc)) := hr2
  have HB : Hid (Below w.heap.size w ((w.alloc (.cells #[.int .i64 K, .int .i64 B, .int .i64 S, .int .i64 st, .int .i64 ra, .slice ta tn tc, .string tu] 24)).alloc (.cells #[.int .i64 (wd : Nat), .int .i64 hd, .slice qa qn qc] 26))) := hb2
  clear hr1 hr2 hb2
  generalize (w.alloc (.cells #[.int .i64 K, .int .i64 B, .int .i64 S, .int .i64 st, .int .i64 ra, .slice ta tn tc, .string tu] 24)).alloc (.cells #[.int .i64 (wd : Nat), .int .i64 hd, .slice qa qn qc] 26) = w1 at *
  obtain ⟨ub, hub⟩ : ∃ ub, ub = w.heap.size := ⟨_, rfl⟩
  rw [← hub] at HU HP ⊢
  obtain ⟨pb, hpb⟩ : ∃ pb, pb = ub + 1 := ⟨_, rfl⟩
  rw [← hpb] at HP ⊢
  clear hub hpb
  have p0 := HP.out.cell 0
  have p2 := HP.out.cell 2
  unfold boxP at p0 p2
  dsimp only [List.getElem?_cons_succ, List.getElem?_cons_zero] at p0 p2
  go_wp2_with fail
  go_loop [10, 9] (fun u v => ∃ k : Nat, k ≤ 9 ∧ u = .int .i64 (k : Nat) ∧ v = .int .i64 (mS g wd x y k : Nat)) (fun u _ => 9 - (RowKit.intOf u).toNat)
  case atStart => exact ⟨0, by omega, rfl, rfl⟩
  case round =>
    obtain ⟨k, hk, rfl, rfl⟩ := hrel
    by_cases hk9 : k < 9
    · have hki : (k : Int) < 9 := by omega
      have HK9 := Lib.hid hk9
      have hnx : mS g wd x y (k + 1) = mS g wd x y k + if k = 4 then 0 else g ((y + k / 3) * wd + x + k % 3) := rfl
      by_cases hk4 : k = 4
      · subst hk4
        have HNX : Hid (mS g wd x y 5 = mS g wd x y 4) := Lib.hid rfl
        clear hnx hk hk9
        go_wp2_with fail
        go_round
        case rel => exact ⟨5, by omega, by go_num, by rw [HNX.out]⟩
        case measure => simp [RowKit.intOf]
      · have e1 : ((k : Int) == 4) = false := beq_eq_false_iff_ne.2 (by omega)
        have e2 : ((k : Int) != 4) = true := bne_iff_ne.2 (by omega)
        rw [if_neg hk4] at hnx
        have hle := mS_le (w := wd) (x := x) (y := y) HG.out k
        obtain ⟨k3, km, y1, y2, x1, i, hi, hin, a1, a0, a2, a3, a4, a5, a6⟩ := md_nums hk9 HI.out HQ.out HY.out
        rw [← hi] at hnx
        obtain ⟨ab, ao, rfl, _, cg⟩ := (HZ.out w1 HB.out).cells i hin
        dsimp only at cg
        rw [lstN_at hin] at cg
        have hv2 := HG.out i
        obtain ⟨v, hv⟩ : ∃ v, v = g i := ⟨_, rfl⟩
        rw [← hv] at cg hnx hv2
        obtain ⟨z, hz⟩ : ∃ z, z = mS g wd x y k := ⟨_, rfl⟩
        obtain ⟨z2, hz2⟩ : ∃ z2, z2 = mS g wd x y (k + 1) := ⟨_, rfl⟩
        rw [← hz] at hnx hle ⊢
        rw [← hz2] at hnx
        have HZ2 := Lib.hid hz2
        have hin2 : (i : Int) < (qn : Int) := Int.ofNat_lt.2 hin
        have a7 : wrap64 ((z : Int) + (v : Int)) = (z2 : Int) := wr_nat (by clear a0 a1 a2 a3 a4 a5 a6; omega) (by clear a0 a1 a2 a3 a4 a5 a6; omega)
        have a0' := wr_same a0
        have a2' := wr_same a2
        have a3' := wr_same a3
        have a4' := wr_same a4
        have a6' := wr_same a6
        have a7' := wr_same a7
        clear hnx hle hi hin hv hv2 hz hz2 hk hk9 hk4
        go_wp2_with fail
        go_round
        case rel => exact ⟨k + 1, HK9.out, by go_num, by rw [← HZ2.out]⟩
        case measure => have := HK9.out; simp [RowKit.intOf]; omega
    · obtain rfl : k = 9 := by omega
      obtain ⟨y1, y2, x1, i, hi, hin, a1, a2, a3, a4⟩ := md_mid HI.out HQ.out HY.out
      obtain ⟨ab, ao, rfl, hab1, cg⟩ := (HZ.out w1 HB.out).cells i hin
      dsimp only at cg hab1
      rw [lstN_at hin] at cg
      have HV2 := Lib.hid (HG.out i)
      have HZ9 : Hid (mS g wd x y 9 < 64) := Lib.hid (by have := mS_le (w := wd) (x := x) (y := y) HG.out 9; omega)
      have HRE : Hid (Ending.returned (.int .i64 (bec B S (g i) (mS g wd x y 9) : Nat)) = Ending.returned (.int .i64 (midV B S g wd x y : Nat))) := Lib.hid (by rw [hi]; rfl)
      obtain ⟨v, hv⟩ : ∃ v, v = g i := ⟨_, rfl⟩
      rw [← hv] at cg HV2 HRE
      obtain ⟨z, hz⟩ : ∃ z, z = mS g wd x y 9 := ⟨_, rfl⟩
      rw [← hz] at HZ9 HRE ⊢
      have hin2 : (i : Int) < (qn : Int) := Int.ofNat_lt.2 hin
      have a1' := wr_same a1
      have a2' := wr_same a2
      have a3' := wr_same a3
      have a4' := wr_same a4
      clear hi hin hv hz hk hk9 p0 p2
      go_upto_region 7 with fail
      have hdr : Below w1.heap.size w1 w1.drew := (Below.refl _ _).drew
      have HUd := Lib.hid (HU.out.keep hdr HU.out.lt)
      have HPd := Lib.hid (HP.out.keep hdr HP.out.lt)
      have cgd := (hdr.cell (p := ⟨ab, ao + i, none⟩) hab1).trans cg
      refine wp_region_noPanic ?_
      refine Rt.region_Cn (Sc2 (fun w2 => w2.cell? ⟨ub, 0, none⟩ = some (.int .i64 K) ∧ w2.cell? ⟨ub, 1, none⟩ = some (.int .i64 B) ∧ w2.cell? ⟨ub, 2, none⟩ = some (.int .i64 S) ∧ w2.cell? ⟨ub, 3, none⟩ = some (.int .i64 st) ∧ w2.cell? ⟨ub, 4, none⟩ = some (.int .i64 ra) ∧ w2.cell? ⟨ub, 5, none⟩ = some (.slice ta tn tc) ∧ w2.cell? ⟨ub, 6, none⟩ = some (.string tu) ∧ w2.cell? ⟨pb, 0, none⟩ = some (.int .i64 (wd : Nat)) ∧ w2.cell? ⟨pb, 2, none⟩ = some (.slice (some ⟨ab, ao, none⟩) qn qc) ∧ w2.cell? ⟨ab, ao + i, none⟩ = some (.int .i64 (v : Nat))) (fun w2 => True) 999) 16 #[false, false, false, false, false, false, false, false, false, false, false, false, false, false, false, false] (by kernel_rfl) (by kernel_rfl) (by kernel_rfl) ?_
      have hS1 : ∀ o, Sc2 (fun w2 => w2.cell? ⟨ub, 0, none⟩ = some (.int .i64 K) ∧ w2.cell? ⟨ub, 1, none⟩ = some (.int .i64 B) ∧ w2.cell? ⟨ub, 2, none⟩ = some (.int .i64 S) ∧ w2.cell? ⟨ub, 3, none⟩ = some (.int .i64 st) ∧ w2.cell? ⟨ub, 4, none⟩ = some (.int .i64 ra) ∧ w2.cell? ⟨ub, 5, none⟩ = some (.slice ta tn tc) ∧ w2.cell? ⟨ub, 6, none⟩ = some (.string tu) ∧ w2.cell? ⟨pb, 0, none⟩ = some (.int .i64 (wd : Nat)) ∧ w2.cell? ⟨pb, 2, none⟩ = some (.slice (some ⟨ab, ao, none⟩) qn qc) ∧ w2.cell? ⟨ab, ao + i, none⟩ = some (.int .i64 (v : Nat))) (fun w2 => True) 999 o w1.drew := Sc2.of ⟨HUd.out.cell 0, HUd.out.cell 1, HUd.out.cell 2, HUd.out.cell 3, HUd.out.cell 4, HUd.out.cell 5, HUd.out.cell 6, HPd.out.cell 0, HPd.out.cell 2, cgd⟩ trivial
      refine Rt.C_take (none) (i := 0) (oi := _) (v := ?_) rfl (by kernel_rfl) (by kernel_rfl) (by kernel_rfl) (by kernel_rfl) (fun _ _ _ h => h) (Sc2.other (by decide)) (Or.inl ⟨by rfl, ?_⟩) (fun o' _ => hS1 o') ?_
      rotate_left
      · intro w2 hSw
        obtain ⟨s0, s1, s2, s3, s4, s5, s6, s7, s8, s9⟩ := hSw
        go_simp
        try with_reducible rfl
      simp only [Act.put, List.getElem_toArray, List.getElem_cons_succ, List.getElem_cons_zero, List.setIfInBounds_toArray, List.set_cons_zero, List.set_cons_succ]
      refine Rt.C_take (none) (i := 1) (oi := _) (v := ?_) rfl (by kernel_rfl) (by kernel_rfl) (by kernel_rfl) (by kernel_rfl) (fun _ _ _ h => h) (Sc2.other (by decide)) (Or.inl ⟨by rfl, ?_⟩) (fun o' _ => hS1 o') ?_
      rotate_left
      · intro w2 hSw
        obtain ⟨s0, s1, s2, s3, s4, s5, s6, s7, s8, s9⟩ := hSw
        go_simp
        try with_reducible rfl
      simp only [Act.put, List.getElem_toArray, List.getElem_cons_succ, List.getElem_cons_zero, List.setIfInBounds_toArray, List.set_cons_zero, List.set_cons_succ]
      refine Rt.C_take (none) (i := 2) (oi := _) (v := ?_) rfl (by kernel_rfl) (by kernel_rfl) (by kernel_rfl) (by kernel_rfl) (fun _ _ _ h => h) (Sc2.other (by decide)) (Or.inl ⟨by rfl, ?_⟩) (fun o' _ => hS1 o') ?_
      rotate_left
      · intro w2 hSw
        obtain ⟨s0, s1, s2, s3, s4, s5, s6, s7, s8, s9⟩ := hSw
        go_simp
        try with_reducible rfl
      simp only [Act.put, List.getElem_toArray, List.getElem_cons_succ, List.getElem_cons_zero, List.setIfInBounds_toArray, List.set_cons_zero, List.set_cons_succ]
      refine Rt.C_take (none) (i := 3) (oi := _) (v := ?_) rfl (by kernel_rfl) (by kernel_rfl) (by kernel_rfl) (by kernel_rfl) (fun _ _ _ h => h) (Sc2.other (by decide)) (Or.inl ⟨by rfl, ?_⟩) (fun o' _ => hS1 o') ?_
      rotate_left
      · intro w2 hSw
        obtain ⟨s0, s1, s2, s3, s4, s5, s6, s7, s8, s9⟩ := hSw
        go_simp
        try with_reducible rfl
      simp only [Act.put, List.getElem_toArray, List.getElem_cons_succ, List.getElem_cons_zero, List.setIfInBounds_toArray, List.set_cons_zero, List.set_cons_succ]
      refine Rt.C_take (none) (i := 4) (oi := _) (v := ?_) rfl (by kernel_rfl) (by kernel_rfl) (by kernel_rfl) (by kernel_rfl) (fun _ _ _ h => h) (Sc2.other (by decide)) (Or.inl ⟨by rfl, ?_⟩) (fun o' _ => hS1 o') ?_
      rotate_left
      · intro w2 hSw
        obtain ⟨s0, s1, s2, s3, s4, s5, s6, s7, s8, s9⟩ := hSw
        go_simp
        try with_reducible rfl
      simp only [Act.put, List.getElem_toArray, List.getElem_cons_succ, List.getElem_cons_zero, List.setIfInBounds_toArray, List.set_cons_zero, List.set_cons_succ]
      refine Rt.C_take (none) (i := 5) (oi := _) (v := ?_) rfl (by kernel_rfl) (by kernel_rfl) (by kernel_rfl) (by kernel_rfl) (fun _ _ _ h => h) (Sc2.other (by decide)) (Or.inl ⟨by rfl, ?_⟩) (fun o' _ => hS1 o') ?_
      rotate_left
      · intro w2 hSw
        obtain ⟨s0, s1, s2, s3, s4, s5, s6, s7, s8, s9⟩ := hSw
        go_simp
        try with_reducible rfl
      simp only [Act.put, List.getElem_toArray, List.getElem_cons_succ, List.getElem_cons_zero, List.setIfInBounds_toArray, List.set_cons_zero, List.set_cons_succ]
      refine Rt.C_take (none) (i := 6) (oi := _) (v := ?_) rfl (by kernel_rfl) (by kernel_rfl) (by kernel_rfl) (by kernel_rfl) (fun _ _ _ h => h) (Sc2.other (by decide)) (Or.inl ⟨by rfl, ?_⟩) (fun o' _ => hS1 o') ?_
      rotate_left
      · intro w2 hSw
        obtain ⟨s0, s1, s2, s3, s4, s5, s6, s7, s8, s9⟩ := hSw
        go_simp
        try with_reducible rfl
      simp only [Act.put, List.getElem_toArray, List.getElem_cons_succ, List.getElem_cons_zero, List.setIfInBounds_toArray, List.set_cons_zero, List.set_cons_succ]
      refine Rt.C_take (none) (i := 7) (oi := _) (v := ?_) rfl (by kernel_rfl) (by kernel_rfl) (by kernel_rfl) (by kernel_rfl) (fun _ _ _ h => h) (Sc2.other (by decide)) (Or.inl ⟨by rfl, ?_⟩) (fun o' _ => hS1 o') ?_
      rotate_left
      · intro w2 hSw
        obtain ⟨s0, s1, s2, s3, s4, s5, s6, s7, s8, s9⟩ := hSw
        go_simp
        try with_reducible rfl
      simp only [Act.put, List.getElem_toArray, List.getElem_cons_succ, List.getElem_cons_zero, List.setIfInBounds_toArray, List.set_cons_zero, List.set_cons_succ]
      refine Rt.C_take (none) (i := 8) (oi := _) (v := ?_) rfl (by kernel_rfl) (by kernel_rfl) (by kernel_rfl) (by kernel_rfl) (fun _ _ _ h => h) (Sc2.other (by decide)) (Or.inl ⟨by rfl, ?_⟩) (fun o' _ => hS1 o') ?_
      rotate_left
      · intro w2 hSw
        obtain ⟨s0, s1, s2, s3, s4, s5, s6, s7, s8, s9⟩ := hSw
        go_simp
        try with_reducible rfl
      simp only [Act.put, List.getElem_toArray, List.getElem_cons_succ, List.getElem_cons_zero, List.setIfInBounds_toArray, List.set_cons_zero, List.set_cons_succ]
      refine Rt.C_take (none) (i := 9) (oi := _) (v := ?_) rfl (by kernel_rfl) (by kernel_rfl) (by kernel_rfl) (by kernel_rfl) (fun _ _ _ h => h) (Sc2.other (by decide)) (Or.inl ⟨by rfl, ?_⟩) (fun o' _ => hS1 o') ?_
      rotate_left
      · intro w2 hSw
        obtain ⟨s0, s1, s2, s3, s4, s5, s6, s7, s8, s9⟩ := hSw
        go_simp
        try with_reducible rfl
      simp only [Act.put, List.getElem_toArray, List.getElem_cons_succ, List.getElem_cons_zero, List.setIfInBounds_toArray, List.set_cons_zero, List.set_cons_succ]
      refine Rt.C_take (none) (i := 10) (oi := _) (v := ?_) rfl (by kernel_rfl) (by kernel_rfl) (by kernel_rfl) (by kernel_rfl) (fun _ _ _ h => h) (Sc2.other (by decide)) (Or.inl ⟨by rfl, ?_⟩) (fun o' _ => hS1 o') ?_
      rotate_left
      · intro w2 hSw
        obtain ⟨s0, s1, s2, s3, s4, s5, s6, s7, s8, s9⟩ := hSw
        go_simp
        try with_reducible rfl
      simp only [Act.put, List.getElem_toArray, List.getElem_cons_succ, List.getElem_cons_zero, List.setIfInBounds_toArray, List.set_cons_zero, List.set_cons_succ]
      refine Rt.C_take (none) (i := 11) (oi := _) (v := ?_) rfl (by kernel_rfl) (by kernel_rfl) (by kernel_rfl) (by kernel_rfl) (fun _ _ _ h => h) (Sc2.other (by decide)) (Or.inl ⟨by rfl, ?_⟩) (fun o' _ => hS1 o') ?_
      rotate_left
      · intro w2 hSw
        obtain ⟨s0, s1, s2, s3, s4, s5, s6, s7, s8, s9⟩ := hSw
        go_simp
        try with_reducible rfl
      simp only [Act.put, List.getElem_toArray, List.getElem_cons_succ, List.getElem_cons_zero, List.setIfInBounds_toArray, List.set_cons_zero, List.set_cons_succ]
      refine Rt.C_take (none) (i := 12) (oi := _) (v := ?_) rfl (by kernel_rfl) (by kernel_rfl) (by kernel_rfl) (by kernel_rfl) (fun _ _ _ h => h) (Sc2.other (by decide)) (Or.inl ⟨by rfl, ?_⟩) (fun o' _ => hS1 o') ?_
      rotate_left
      · intro w2 hSw
        obtain ⟨s0, s1, s2, s3, s4, s5, s6, s7, s8, s9⟩ := hSw
        go_simp
        try with_reducible rfl
      simp only [Act.put, List.getElem_toArray, List.getElem_cons_succ, List.getElem_cons_zero, List.setIfInBounds_toArray, List.set_cons_zero, List.set_cons_succ]
      refine Rt.C_take (none) (i := 13) (oi := _) (v := ?_) rfl (by kernel_rfl) (by kernel_rfl) (by kernel_rfl) (by kernel_rfl) (fun _ _ _ h => h) (Sc2.other (by decide)) (Or.inl ⟨by rfl, ?_⟩) (fun o' _ => hS1 o') ?_
      rotate_left
      · intro w2 hSw
        obtain ⟨s0, s1, s2, s3, s4, s5, s6, s7, s8, s9⟩ := hSw
        go_simp
        try with_reducible rfl
      simp only [Act.put, List.getElem_toArray, List.getElem_cons_succ, List.getElem_cons_zero, List.setIfInBounds_toArray, List.set_cons_zero, List.set_cons_succ]
      clear hS1 cgd HUd HPd
      refine Rt.C_ready (rs := [14]) (by kernel_rfl) (by simp) ?_
      refine Rt.AllC.cons (i := 14) (o := _) rfl (by rfl) (fun K' hK => ?_) ?_
      · skip
        go_simp
        refine (HBE.out v z w1.drew HZ9.out HV2.out).mono ?_
        rintro e8 w8 ⟨rfl, hb8⟩
        have HB8 : Hid (Below w1.heap.size w1 w8) := Lib.hid (hdr.trans (hb8.mono hdr.size))
        clear hb8 hdr
        have HU8 := Lib.hid (HU.out.keep HB8.out HU.out.lt)
        have HP8 := Lib.hid (HP.out.keep HB8.out HP.out.lt)
        have cg8 := (HB8.out.cell (p := ⟨ab, ao + i, none⟩) hab1).trans cg
        go_simp
        have hS2 : ∀ o, Sc2 (fun w2 => w2.cell? ⟨ub, 0, none⟩ = some (.int .i64 K) ∧ w2.cell? ⟨ub, 1, none⟩ = some (.int .i64 B) ∧ w2.cell? ⟨ub, 2, none⟩ = some (.int .i64 S) ∧ w2.cell? ⟨ub, 3, none⟩ = some (.int .i64 st) ∧ w2.cell? ⟨ub, 4, none⟩ = some (.int .i64 ra) ∧ w2.cell? ⟨ub, 5, none⟩ = some (.slice ta tn tc) ∧ w2.cell? ⟨ub, 6, none⟩ = some (.string tu) ∧ w2.cell? ⟨pb, 0, none⟩ = some (.int .i64 (wd : Nat)) ∧ w2.cell? ⟨pb, 2, none⟩ = some (.slice (some ⟨ab, ao, none⟩) qn qc) ∧ w2.cell? ⟨ab, ao + i, none⟩ = some (.int .i64 (v : Nat))) (fun w2 => True) 999 o w8 := Sc2.of ⟨HU8.out.cell 0, HU8.out.cell 1, HU8.out.cell 2, HU8.out.cell 3, HU8.out.cell 4, HU8.out.cell 5, HU8.out.cell 6, HP8.out.cell 0, HP8.out.cell 2, cg8⟩ trivial
        refine hK _ _ (fun o' _ => hS2 o') ?_
        clear hK K'
        simp only [Act.put, List.getElem_toArray, List.getElem_cons_succ, List.getElem_cons_zero, List.setIfInBounds_toArray, List.set_cons_zero, List.set_cons_succ]
        refine Rt.C_take (none) (i := 15) (oi := _) (v := ?_) rfl (by kernel_rfl) (by kernel_rfl) (by kernel_rfl) (by kernel_rfl) (fun _ _ _ h => h) (Sc2.other (by decide)) (Or.inl ⟨by rfl, ?_⟩) (fun o' _ => hS2 o') ?_
        rotate_left
        · intro w2 hSw
          obtain ⟨s0, s1, s2, s3, s4, s5, s6, s7, s8, s9⟩ := hSw
          go_simp
          try with_reducible rfl
        simp only [Act.put, List.getElem_toArray, List.getElem_cons_succ, List.getElem_cons_zero, List.setIfInBounds_toArray, List.set_cons_zero, List.set_cons_succ]
        refine Rt.C_done (by kernel_rfl) ?_ _
        refine NoPanic.normal ?_
        clear hS2 cg8 cg
        have HB9 := Lib.hid (HB.out.trans (HB8.out.mono HB.out.size))
        go_wp2_with fail
        go_ret
        exact ⟨HRE.out, HB9.out⟩
      exact Rt.AllC.nil
/-- The document's finder. -/
def finD (K B S st ra : Int) (ta : Option Addr) (tn tc : Nat) (tu : ByteArray) (W H : Int) (a : Option Addr) (n c : Nat) (qw qh : Int) (qs bs : Value) (wd : Int) : List Value := [.int .i64 K, .int .i64 B, .int .i64 S, .int .i64 st, .int .i64 ra, .slice ta tn tc, .string tu, .int .i64 W, .int .i64 H, .slice a n c, .int .i64 qw, .int .i64 qh, qs, bs, .int .i64 wd]
/-- The key so far: the cells of the last two rows. -/
theorem ky_next (P e t : Nat) : P / 2 ^ (e + 1) % 2 ^ t * 2 + bt P e = P / 2 ^ e % 2 ^ (t + 1) := by
  unfold bt
  have h : P / 2 ^ (e + 1) = P / 2 ^ e / 2 := by rw [Nat.pow_succ, Nat.div_div_eq_div_mul]
  rw [h, Nat.pow_succ, Nat.mul_comm (2 ^ t) 2, Nat.mod_mul]
  omega

theorem ky_low {at' M t : Nat} {i : Int} (hi : i = (at' : Int) - (M : Int) + (t : Int)) (h0 : ¬ 0 ≤ i) (ht : t < M) : at' ≤ M - (t + 1) := by omega
theorem ky_lt {at' M t : Nat} {i : Int} (hi : i = (at' : Int) - (M : Int) + (t : Int)) (ht : t < M) : i < (at' : Int) := by omega
theorem ky_end {at' M : Nat} {i : Int} (hi : i = (at' : Int) - (M : Int) + (M : Int)) : ¬ i < (at' : Int) := by omega
theorem ky_idx {at' M t j : Nat} (hi : (j : Int) = (at' : Int) - (M : Int) + (t : Int)) (ht : t < M) : at' - 1 - j = M - (t + 1) ∧ j < at' := by omega
theorem ky_inc {at' M t : Nat} {i : Int} (hi : i = (at' : Int) - (M : Int) + (t : Int)) (ht : t < M) (ha : at' ≤ 1000) (hM : M ≤ 16) : wrap64 (i + 1) = (at' : Int) - (M : Int) + ((t + 1 : Nat) : Int) := by
  rw [hi, wr_in (by omega) (by omega)]
  push_cast
  omega
theorem ky_meas {at' M t : Nat} {i : Int} (hi : i = (at' : Int) - (M : Int) + (t : Int)) (ht : t < M) : ((at' : Int) - RowKit.intOf (.int .i64 ((at' : Int) - (M : Int) + ((t + 1 : Nat) : Int)))).toNat < ((at' : Int) - RowKit.intOf (.int .i64 i)).toNat := by
  simp only [RowKit.intOf]
  omega
theorem ky_z {P M t z : Nat} (hz : z = P / 2 ^ (M - t) % 2 ^ t) (ht : t ≤ M) (hM : M ≤ 16) : z ≤ 65536 := by
  have h1 : z < 2 ^ t := by rw [hz]; exact Nat.mod_lt _ (Nat.pow_pos (by decide))
  have h2 : 2 ^ t ≤ 2 ^ 16 := Nat.pow_le_pow_right (by decide) (by omega)
  exact Nat.le_of_lt (Nat.lt_of_lt_of_le h1 h2)
theorem ky_sum {z v : Nat} (hz : z ≤ 65536) (hv : v < 2) : wrap64 ((z : Int) * 2) = ((z * 2 : Nat) : Int) ∧ wrap64 (((z * 2 : Nat) : Int) + (v : Int)) = ((z * 2 + v : Nat) : Int) :=
  ⟨wr_nat (by push_cast; rfl) (by omega), wr_nat (by push_cast; rfl) (by omega)⟩

set_option maxHeartbeats 8000000 in
set_option maxRecDepth 1000000 in
theorem key_any (K st ra : Int) (B S : Nat) (ta : Option Addr) (tn tc : Nat) (tu : ByteArray) (W H : Int) (a : Option Addr) (n c : Nat) (qh : Int) (qb m : Nat) (bs : Value) (wd fb at' P : Nat) (g : Nat → Nat) (w : World) (hF : Row w fb 44 (finD K B S st ra ta tn tc tu W H a n c wd qh (.slice (some ⟨qb, 0, none⟩) m m) bs wd)) (hQ : Row w qb 3 ((lstN m g).map (Value.int .i64))) (hat : at' < m) (hwd : wd ≤ 7) (hm : m ≤ 1000) (hg : ∀ j, j < at' → g j = bt P (at' - 1 - j)) (hP : P < 2 ^ at') :
    Calls Tryd.prog 24 #[.pointer (some ⟨fb, 0, none⟩), .int .i64 (at' : Nat)] w fun e w' => e = .returned (.int .i64 (P % 2 ^ (2 * wd + 2) : Nat)) ∧ w' = w := by
  obtain ⟨M, hM⟩ : ∃ M, M = 2 * wd + 2 := ⟨_, rfl⟩
  have HM : Hid (M = 2 * wd + 2 ∧ M ≤ 16) := Lib.hid (by omega)
  have HQ := Lib.hid hQ
  have HAT : Hid (at' < m ∧ m ≤ 1000) := Lib.hid ⟨hat, hm⟩
  have HG := Lib.hid hg
  have HP := Lib.hid hP
  rw [← hM]
  obtain ⟨ky, hky⟩ : ∃ ky, ky = P % 2 ^ M := ⟨_, rfl⟩
  have HKY := Lib.hid hky
  rw [← hky]
  have q14 := hF.cell 14
  have q12 := hF.cell 12
  unfold finD at q14 q12
  dsimp only [List.getElem?_cons_succ, List.getElem?_cons_zero] at q14 q12
  obtain ⟨i0, hi0⟩ : ∃ i0 : Int, i0 = (at' : Int) - 2 * (wd : Int) - 2 := ⟨_, rfl⟩
  have HI0 : Hid (i0 = (at' : Int) - (M : Int)) := Lib.hid (by omega)
  obtain ⟨w2, hw2⟩ : ∃ w2 : Int, w2 = 2 * (wd : Int) := ⟨_, rfl⟩
  obtain ⟨d1, hd1⟩ : ∃ d1 : Int, d1 = (at' : Int) - w2 := ⟨_, rfl⟩
  have a1 : wrap64 (2 * (wd : Int)) = w2 := by rw [hw2]; exact wr_in (by omega) (by omega)
  have a2 : wrap64 ((at' : Int) - w2) = d1 := by clear a1; rw [hd1]; exact wr_in (by omega) (by omega)
  have a3 : wrap64 (d1 - 2) = i0 := by clear a1 a2; rw [hi0, hd1, hw2]; exact wr_in (by omega) (by omega)
  have a1' := wr_same a1
  have a2' := wr_same a2
  have a3' := wr_same a3
  clear hF hQ hat hwd hm hg hP hM hi0 hw2 hd1 hky
  go_enter Tryd.func24, Tryd.ntmps24
  go_wp2_with fail
  clear a1 a2 a3 a1' a2' a3' q14
  go_loop [6, 5] (fun u v => ∃ t : Nat, t ≤ M ∧ u = .int .i64 ((at' : Int) - (M : Int) + (t : Int)) ∧ v = .int .i64 (P / 2 ^ (M - t) % 2 ^ t : Nat)) (fun u _ => ((at' : Int) - RowKit.intOf u).toNat)
  case atStart => exact ⟨0, Nat.zero_le _, by rw [HI0.out]; simp, by rw [Nat.pow_zero, Nat.mod_one]; rfl⟩
  case round =>
    obtain ⟨t, ht, rfl, rfl⟩ := hrel
    obtain ⟨i, hi⟩ : ∃ i : Int, i = (at' : Int) - (M : Int) + (t : Int) := ⟨_, rfl⟩
    obtain ⟨z, hz⟩ : ∃ z, z = P / 2 ^ (M - t) % 2 ^ t := ⟨_, rfl⟩
    have hzl : z ≤ 65536 := ky_z hz ht HM.out.2
    rw [← hi, ← hz]
    by_cases htM : t < M
    · have HT := Lib.hid htM
      have hia := ky_lt hi htM
      have hine := ky_inc hi htM (Nat.le_trans (Nat.le_of_lt HAT.out.1) HAT.out.2) HM.out.2
      have hine' := wr_same hine
      have HME := Lib.hid (ky_meas hi htM)
      have hnx := ky_next P (M - (t + 1)) t
      rw [show M - (t + 1) + 1 = M - t from Nat.succ_pred_eq_of_pos (Nat.sub_pos_of_lt htM), ← hz] at hnx
      by_cases hi0 : 0 ≤ i
      · obtain ⟨j, rfl⟩ := Int.eq_ofNat_of_zero_le hi0
        obtain ⟨hej, hjat⟩ := ky_idx hi htM
        have hjm : j < m := Nat.lt_trans hjat HAT.out.1
        have hgj := HG.out j hjat
        rw [hej] at hgj
        obtain ⟨v, hv⟩ : ∃ v, v = g j := ⟨_, rfl⟩
        rw [← hgj, ← hv] at hnx
        have hv2 : v < 2 := by rw [hv, hgj]; exact bt_lt _ _
        have cg := HQ.out.cell j
        rw [List.getElem?_map, show (lstN m g)[j]? = some ((g j : Nat) : Int) by unfold lstN; rw [List.getElem?_map, List.getElem?_range hjm]; rfl, ← hv] at cg
        dsimp only [Option.map_some] at cg
        obtain ⟨b1, b2⟩ := ky_sum hzl hv2
        have HZ3 : Hid (z * 2 + v = P / 2 ^ (M - (t + 1)) % 2 ^ (t + 1)) := Lib.hid hnx
        have hjm2 : (j : Int) < (m : Int) := Int.ofNat_lt.2 hjm
        have b1' := wr_same b1
        have b2' := wr_same b2
        clear hi hz hzl ht htM hnx hi0 hjat hjm hgj hej hv hv2
        obtain ⟨z2, hz2⟩ : ∃ z2, z2 = z * 2 := ⟨_, rfl⟩
        rw [← hz2] at b1 b1' b2 b2' HZ3
        obtain ⟨z3, hz3⟩ : ∃ z3, z3 = z2 + v := ⟨_, rfl⟩
        rw [← hz3] at b2 b2' HZ3
        clear hz2 hz3
        go_wp2_with fail
        go_round
        case rel => exact ⟨t + 1, HT.out, rfl, by rw [← HZ3.out]⟩
        case measure => exact HME.out
      · have hb0 : bt P (M - (t + 1)) = 0 := by
          unfold bt
          have h1 : 2 ^ at' ≤ 2 ^ (M - (t + 1)) := Nat.pow_le_pow_right (by decide) (ky_low hi hi0 htM)
          rw [Nat.div_eq_of_lt (Nat.lt_of_lt_of_le HP.out h1)]
        rw [hb0, Nat.add_zero] at hnx
        have HZ3 : Hid (z * 2 = P / 2 ^ (M - (t + 1)) % 2 ^ (t + 1)) := Lib.hid hnx
        have b1 := (ky_sum hzl (show 0 < 2 by decide)).1
        have b1' := wr_same b1
        clear hi hz hzl ht htM hnx hb0
        obtain ⟨z2, hz2⟩ : ∃ z2, z2 = z * 2 := ⟨_, rfl⟩
        rw [← hz2] at b1 b1' HZ3
        clear hz2
        go_wp2_with fail
        go_round
        case rel => exact ⟨t + 1, HT.out, rfl, by rw [← HZ3.out]⟩
        case measure => exact HME.out
    · obtain rfl : t = M := Nat.le_antisymm ht (Nat.le_of_not_lt htM)
      have hia := ky_end hi
      obtain rfl : z = ky := by rw [hz, HKY.out, Nat.sub_self, Nat.pow_zero, Nat.div_one]
      clear hi hz hzl ht htM
      go_wp2_with fail
      go_ret
      exact ⟨rfl, rfl⟩
end Pn
end Go.Proofs.YthipeeagpllfeaaDoor
