/- WALK: edenref4.Mass, Push. -/
import Derived.Test.YtekoldebcihdoaaDoorGsF
import Derived.Test.YtekoldebcihdoaaDoorGsP
namespace Go.Proofs.YtekoldebcihdoaaDoor
set_option linter.unusedSimpArgs false
set_option linter.unusedVariables false
open Go.RowKit
namespace Gs
open Tld Mem

set_option maxHeartbeats 8000000 in
set_option maxRecDepth 1000000 in
theorem Mass_ref (K W H : Nat) (a : Option Addr) (n c : Nat) (zs : List Int) (w : World) (hZ : Ints.Is w a n zs) (hf : gfault K W H zs = 0) :
    Calls Tryd.prog 13 #[gas K W H a n c] w fun e w' => e = .returned (.int .i64 (massN (cN zs) n : Nat)) ∧ Below w.heap.size w w' := by
  obtain ⟨hsd, hsh, hcl⟩ := gfault_zero hf
  rw [hZ.len] at hsh
  obtain ⟨hok, hn, hW, hH⟩ := ok_of hsd hsh
  have hn2 : n ≤ 10000 := by rw [hn]; exact Nat.mul_le_mul hW hH
  have HCR := Lib.hid (cell_rng hok hcl)
  have HZ := Lib.hid (fun w2 (h : Below w.heap.size w w2) => hZ.keep h)
  have HFL : Hid (∀ k, cN zs k < 64) := fun k => pow_lt hok (HCR.out k).2
  have HCV : Hid (∀ k, zs.getD k 0 = ((cN zs k : Nat) : Int)) := fun k => by
    have := (HCR.out k).1
    unfold cN
    omega
  clear hZ hf hsd hsh hcl hn hok hW hH
  obtain ⟨F, hF⟩ : ∃ F, F = cN zs := ⟨_, rfl⟩
  rw [← hF] at HFL HCV ⊢
  clear hF HCR
  unfold gas
  go_enter Tryd.func13, Tryd.ntmps13
  go_upto_region 1 with fail
  have hr0 : Row (w.alloc (.cells #[.int .i64 K, .int .i64 W, .int .i64 H, .slice a n c] 24)) w.heap.size 24 (boxG K W H a n c) := row_alloc w _ _
  have hb0 : Below w.heap.size w (w.alloc (.cells #[.int .i64 K, .int .i64 W, .int .i64 H, .slice a n c] 24)) := (Below.refl _ _).alloc (Nat.le_refl _) _
  have HR := Lib.hid hr0
  have HB := Lib.hid hb0
  clear hr0 hb0
  generalize w.alloc (.cells #[.int .i64 K, .int .i64 W, .int .i64 H, .slice a n c] 24) = w1 at *
  obtain ⟨g, hg⟩ : ∃ g, g = w.heap.size := ⟨_, rfl⟩
  rw [← hg] at HR ⊢
  clear hg
  go_wp2_with fail
  go_loopw [3, 4] (fun u v wr => ∃ k x : Nat, k ≤ n ∧ v = .int .i64 (k : Nat) ∧ u = .int .i64 (x : Nat) ∧ x = massN F k ∧ x ≤ 6 * k ∧ Row wr g 24 (boxG K W H a n c) ∧ Below w.heap.size w wr) (fun _ v _ => n - (RowKit.intOf v).toNat)
  case atStart => exact ⟨0, 0, Nat.zero_le _, rfl, rfl, rfl, Nat.le_refl _, HR.out, HB.out⟩
  case round =>
    clear HR HB
    obtain ⟨k, x, hk, rfl, rfl, hx, hxl, hr, hb⟩ := hrel
    have HB := Lib.hid hb
    have HR := Lib.hid hr
    have HX := Lib.hid hx
    have f3 := hr.cell 3
    unfold boxG at f3
    dsimp only [List.getElem?_cons_succ, List.getElem?_cons_zero] at f3
    clear hb hx hr
    by_cases hkn : k < n
    · have hk2 : (k : Int) < (n : Int) := by omega
      obtain ⟨ab, ao, rfl, _, cg⟩ := (HZ.out wr HB.out).cells k hkn
      dsimp only at cg
      rw [HCV.out k] at cg
      obtain ⟨v, hv⟩ : ∃ v, v = F k := ⟨_, rfl⟩
      rw [← hv] at cg
      have hv64 : v < 64 := by rw [hv]; exact HFL.out k
      have HO := Lib.hid (fun w2 => ones_ref v w2 hv64)
      have hpl := pc_le v
      have HNX : Hid (massN F (k + 1) = x + pc6 v) := by
        show _ = _
        rw [HX.out, hv]
        rfl
      generalize pc6 v = y at *
      have HML := massN_le F (k + 1)
      rw [HNX.out] at HML
      have HML := Lib.hid HML
      clear hv
      go_wp2_with fail
      refine (HO.out wr).mono ?_
      rintro e3 w3 ⟨rfl, hw3⟩
      rw [hw3]
      go_wp2_with fail
      go_roundw
      case rel => exact ⟨k + 1, x + y, by omega, by go_num, by go_num, HNX.out.symm, HML.out, HR.out, HB.out⟩
      case measure => simp [RowKit.intOf]; omega
    · obtain rfl : k = n := by omega
      have hnl : ¬ (k : Int) < (k : Int) := by omega
      go_wp2_with fail
      go_ret
      exact ⟨congrArg (fun z : Nat => Ending.returned (.int .i64 z)) HX.out, HB.out⟩

def r4 : List Value := [.int .i64 1, .int .i64 0, .int .i64 (-1), .int .i64 0]
def u4 : List Value := [.int .i64 0, .int .i64 1, .int .i64 0, .int .i64 (-1)]
def r6 : List Value := [.int .i64 1, .int .i64 0, .int .i64 (-1), .int .i64 (-1), .int .i64 0, .int .i64 1]
def u6 : List Value := [.int .i64 0, .int .i64 1, .int .i64 1, .int .i64 0, .int .i64 (-1), .int .i64 (-1)]
/-- A table of so many numbers. -/
def Tb (w : World) (b K : Nat) (v : Nat → Int) : Prop := b < w.heap.size ∧ ∀ d, d < K → w.cell? ⟨b, d, none⟩ = some (.int .i64 (v d))
theorem Tb.keep {w w' : World} {b K : Nat} {v : Nat → Int} (h : Tb w b K v) (hb : Below w.heap.size w w') : Tb w' b K v :=
  ⟨Nat.lt_of_lt_of_le h.1 hb.size, fun d hd => by rw [hb.cell (p := ⟨b, d, none⟩) h.1]; exact h.2 d hd⟩
theorem tb_r4 {w : World} {b : Nat} {T : TypeId} (h : Row w b T r4) : Tb w b 4 (vR 4) := ⟨h.lt, fun d hd => by
  rw [h.cell]
  match d, hd with
  | 0, _ => rfl
  | 1, _ => rfl
  | 2, _ => rfl
  | 3, _ => rfl⟩
theorem tb_u4 {w : World} {b : Nat} {T : TypeId} (h : Row w b T u4) : Tb w b 4 (vU 4) := ⟨h.lt, fun d hd => by
  rw [h.cell]
  match d, hd with
  | 0, _ => rfl
  | 1, _ => rfl
  | 2, _ => rfl
  | 3, _ => rfl⟩
theorem tb_r6 {w : World} {b : Nat} {T : TypeId} (h : Row w b T r6) : Tb w b 6 (vR 6) := ⟨h.lt, fun d hd => by
  rw [h.cell]
  match d, hd with
  | 0, _ => rfl
  | 1, _ => rfl
  | 2, _ => rfl
  | 3, _ => rfl
  | 4, _ => rfl
  | 5, _ => rfl⟩
theorem tb_u6 {w : World} {b : Nat} {T : TypeId} (h : Row w b T u6) : Tb w b 6 (vU 6) := ⟨h.lt, fun d hd => by
  rw [h.cell]
  match d, hd with
  | 0, _ => rfl
  | 1, _ => rfl
  | 2, _ => rfl
  | 3, _ => rfl
  | 4, _ => rfl
  | 5, _ => rfl⟩
set_option maxHeartbeats 16000000 in
set_option maxRecDepth 1000000 in
theorem Push_ref (K W H : Nat) (a : Option Addr) (n c : Nat) (zs : List Int) (w : World) (hZ : Ints.Is w a n zs) (hf : gfault K W H zs = 0) :
    Calls Tryd.prog 14 #[gas K W H a n c] w fun e w' => e = .returned (.tuple #[.int .i64 (tot (fun j => cw K (vR K) (cN zs j)) n), .int .i64 (tot (fun j => cw K (vU K) (cN zs j)) n)]) ∧ Below w.heap.size w w' := by
  obtain ⟨hsd, hsh, hcl⟩ := gfault_zero hf
  rw [hZ.len] at hsh
  obtain ⟨hok, hn, hW, hH⟩ := ok_of hsd hsh
  have hn2 : n ≤ 10000 := by rw [hn]; exact Nat.mul_le_mul hW hH
  have hK6 : K = 4 ∨ K = 6 := by rcases hok.k with h | h; exact .inl h; exact .inr h.1
  have HCR := Lib.hid (cell_rng hok hcl)
  have HZ := Lib.hid (fun w2 (h : Below w.heap.size w w2) => hZ.keep h)
  have HFL : Hid (∀ k, cN zs k < 64) := fun k => pow_lt hok (HCR.out k).2
  have HCV : Hid (∀ k, zs.getD k 0 = ((cN zs k : Nat) : Int)) := fun k => by
    have := (HCR.out k).1
    unfold cN
    omega
  have HOK := Lib.hid hok
  have HK6 := Lib.hid hK6
  have hKl : K ≤ 6 := by omega
  clear hZ hf hsd hsh hcl hn hok hW hH hK6
  obtain ⟨F, hF⟩ : ∃ F, F = cN zs := ⟨_, rfl⟩
  rw [← hF] at HFL HCV ⊢
  clear hF HCR
  obtain ⟨TR, hTR⟩ : ∃ TR, TR = tot (fun j => cw K (vR K) (F j)) := ⟨_, rfl⟩
  obtain ⟨TU, hTU⟩ : ∃ TU, TU = tot (fun j => cw K (vU K) (F j)) := ⟨_, rfl⟩
  rw [← hTR, ← hTU]
  have HTR : Hid (∀ k, -(((6 * k : Nat)) : Int) ≤ TR k ∧ TR k ≤ ((6 * k : Nat) : Int)) := fun k => by
    rw [hTR]
    refine tot_rng (fun j => ?_) k
    have := wsum_rng (v := vR K) (b := bit (F j)) (fun e => bit_le _ e) K fun e he => (v_rng HOK.out he).1
    unfold cw
    omega
  have HTU : Hid (∀ k, -(((6 * k : Nat)) : Int) ≤ TU k ∧ TU k ≤ ((6 * k : Nat) : Int)) := fun k => by
    rw [hTU]
    refine tot_rng (fun j => ?_) k
    have := wsum_rng (v := vU K) (b := bit (F j)) (fun e => bit_le _ e) K fun e he => (v_rng HOK.out he).2
    unfold cw
    omega
  have HTRN : Hid (∀ k, TR (k + 1) = TR k + wsum (vR K) (bit (F k)) K) := fun k => by rw [hTR]; rfl
  have HTUN : Hid (∀ k, TU (k + 1) = TU k + wsum (vU K) (bit (F k)) K) := fun k => by rw [hTU]; rfl
  have HT0 : Hid (TR 0 = 0 ∧ TU 0 = 0) := by show _ ∧ _; rw [hTR, hTU]; exact ⟨rfl, rfl⟩
  clear hTR hTU
  unfold gas
  go_enter Tryd.func14, Tryd.ntmps14
  go_upto_region 1 with fail
  have hr0 : Row (w.alloc (.cells #[.int .i64 K, .int .i64 W, .int .i64 H, .slice a n c] 24)) w.heap.size 24 (boxG K W H a n c) := row_alloc w _ _
  have hb0 : Below w.heap.size w (w.alloc (.cells #[.int .i64 K, .int .i64 W, .int .i64 H, .slice a n c] 24)) := (Below.refl _ _).alloc (Nat.le_refl _) _
  have HR := Lib.hid hr0
  have HB := Lib.hid hb0
  clear hr0 hb0
  generalize w.alloc (.cells #[.int .i64 K, .int .i64 W, .int .i64 H, .slice a n c] 24) = w1 at *
  obtain ⟨g, hg⟩ : ∃ g, g = w.heap.size := ⟨_, rfl⟩
  rw [← hg] at HR ⊢
  clear hg
  go_upto_region 3 with fail
  obtain ⟨hw4, hw6, hb3⟩ := two_new w1 3 3 r4 u4
  have HR4 : Hid (Tb ((w1.alloc (.cells #[.int .i64 1, .int .i64 0, .int .i64 (-1), .int .i64 0] 3)).alloc (.cells #[.int .i64 0, .int .i64 1, .int .i64 0, .int .i64 (-1)] 3)) w1.heap.size 4 (vR 4)) := tb_r4 hw4
  have HU4 : Hid (Tb ((w1.alloc (.cells #[.int .i64 1, .int .i64 0, .int .i64 (-1), .int .i64 0] 3)).alloc (.cells #[.int .i64 0, .int .i64 1, .int .i64 0, .int .i64 (-1)] 3)) (w1.heap.size + 1) 4 (vU 4)) := tb_u4 hw6
  have HB3 : Hid (Below w1.heap.size w1 ((w1.alloc (.cells #[.int .i64 1, .int .i64 0, .int .i64 (-1), .int .i64 0] 3)).alloc (.cells #[.int .i64 0, .int .i64 1, .int .i64 0, .int .i64 (-1)] 3))) := hb3
  clear hw4 hw6 hb3
  generalize (w1.alloc (.cells #[.int .i64 1, .int .i64 0, .int .i64 (-1), .int .i64 0] 3)).alloc (.cells #[.int .i64 0, .int .i64 1, .int .i64 0, .int .i64 (-1)] 3) = w3 at *
  have HR := Lib.hid (HR.out.keep HB3.out HR.out.lt)
  have HB := Lib.hid (HB.out.trans (HB3.out.mono HB.out.size))
  clear HB3
  have f0 := HR.out.cell 0
  unfold boxG at f0
  dsimp only [List.getElem?_cons_succ, List.getElem?_cons_zero] at f0
  go_upto_if 15 with fail
  go_cut [4, 5] (fun v u wx => ∃ br bu, v = .slice (some ⟨br, 0, none⟩) K K ∧ u = .slice (some ⟨bu, 0, none⟩) K K ∧ Tb wx br K (vR K) ∧ Tb wx bu K (vU K) ∧ Below w3.heap.size w3 wx)
  case first =>
    rcases HK6.out with rfl | rfl
    · go_wp2_with fail
      go_meet
      case rel => exact ⟨_, _, rfl, rfl, HR4.out, HU4.out, Below.refl _ _⟩
    · go_wp2_with fail
      go_meet
      case rel =>
        obtain ⟨hw4, hw6, hb3⟩ := two_new w3 3 3 r6 u6
        exact ⟨_, _, rfl, rfl, tb_r6 hw4, tb_u6 hw6, hb3⟩
  case rest =>
  obtain ⟨br, bu, rfl, rfl, htr, htu, hbw⟩ := hcut
  have HWR := Lib.hid htr
  have HWU := Lib.hid htu
  have HR := Lib.hid (HR.out.keep hbw HR.out.lt)
  have HB := Lib.hid (HB.out.trans (hbw.mono HB.out.size))
  clear htr htu hbw HR4 HU4 f0
  go_wp2_with fail
  go_loopw [6, 7, 8] (fun r u v wr => ∃ k : Nat, k ≤ n ∧ v = .int .i64 (k : Nat) ∧ r = .int .i64 (TR k) ∧ u = .int .i64 (TU k) ∧ Row wr g 24 (boxG K W H a n c) ∧ Tb wr br K (vR K) ∧ Tb wr bu K (vU K) ∧ Below w.heap.size w wr) (fun _ _ v _ => n - (RowKit.intOf v).toNat)
  case atStart => exact ⟨0, Nat.zero_le _, rfl, by rw [HT0.out.1], by rw [HT0.out.2], HR.out, HWR.out, HWU.out, HB.out⟩
  case round =>
    clear HR HB HWR HWU
    obtain ⟨k, hk, rfl, rfl, rfl, hr, htr, htu, hb⟩ := hrel
    have HR := Lib.hid hr
    have HB := Lib.hid hb
    have HWR := Lib.hid htr
    have HWU := Lib.hid htu
    have f0 := hr.cell 0
    have f3 := hr.cell 3
    unfold boxG at f0 f3
    dsimp only [List.getElem?_cons_succ, List.getElem?_cons_zero] at f0 f3
    clear hr hb htr htu
    by_cases hkn : k < n
    · --{cell
      have hk2 : (k : Int) < (n : Int) := by omega
      have HKN := Lib.hid hkn
      obtain ⟨ab, ao, rfl, _, cg⟩ := (HZ.out wr HB.out).cells k hkn
      dsimp only at cg
      rw [HCV.out k] at cg
      obtain ⟨mv, hmv⟩ : ∃ mv, mv = F k := ⟨_, rfl⟩
      rw [← hmv] at cg
      have hm64 : mv < 64 := by rw [hmv]; exact HFL.out k
      have HMV := Lib.hid hmv
      have hr1 := HTR.out k
      have hu1 := HTU.out k
      obtain ⟨r0, hr0⟩ : ∃ r0, r0 = TR k := ⟨_, rfl⟩
      obtain ⟨u0, hu0⟩ : ∃ u0, u0 = TU k := ⟨_, rfl⟩
      rw [← hr0] at hr1 ⊢
      rw [← hu0] at hu1 ⊢
      have HR0 := Lib.hid hr0
      have HU0 := Lib.hid hu0
      have hr2 : -60000 ≤ r0 ∧ r0 ≤ 60000 := by omega
      have hu2 : -60000 ≤ u0 ∧ u0 ≤ 60000 := by omega
      have HR2 := Lib.hid hr2
      have HU2 := Lib.hid hu2
      clear hmv hkn hr0 hu0 hr1 hu1 hr2 hu2
      go_wp2_with fail
      clear cg f0 f3
      go_loopw [6, 7, 9, 10] (fun r u p v wr => ∃ d q : Nat, ∃ rx ux : Int, d ≤ K ∧ v = .int .i64 (d : Nat) ∧ p = .int .i64 (q : Nat) ∧ q = mv / 2 ^ d ∧ q < 64 ∧ r = .int .i64 rx ∧ u = .int .i64 ux ∧ rx = r0 + wsum (vR K) (bit mv) d ∧ ux = u0 + wsum (vU K) (bit mv) d ∧ Row wr g 24 (boxG K W H (some ⟨ab, ao, none⟩) n c) ∧ Tb wr br K (vR K) ∧ Tb wr bu K (vU K) ∧ Below w.heap.size w wr) (fun _ _ _ v _ => K - (RowKit.intOf v).toNat)
      case atStart => exact ⟨0, mv, r0, u0, Nat.zero_le _, rfl, rfl, by simp, hm64, rfl, rfl, by unfold wsum; simp, by unfold wsum; simp, HR.out, HWR.out, HWU.out, HB.out⟩
      case round =>
        clear HR HWR HWU HB
        obtain ⟨d, q, rx, ux, hd, rfl, rfl, hq, hq64, rfl, rfl, hrx, hux, hr, htr, htu, hb⟩ := hrel
        have HR := Lib.hid hr
        have HB := Lib.hid hb
        have HWR := Lib.hid htr
        have HWU := Lib.hid htu
        have HRX := Lib.hid hrx
        have HUX := Lib.hid hux
        have hrr := wsum_rng (v := vR K) (b := bit mv) (fun e => bit_le _ e) d fun e he => (v_rng HOK.out (by omega)).1
        have huu := wsum_rng (v := vU K) (b := bit mv) (fun e => bit_le _ e) d fun e he => (v_rng HOK.out (by omega)).2
        have hrl : -60006 ≤ rx ∧ rx ≤ 60006 := by have := HR2.out; omega
        have hul : -60006 ≤ ux ∧ ux ≤ 60006 := by have := HU2.out; omega
        obtain ⟨hrl1, hrl2⟩ := hrl
        obtain ⟨hul1, hul2⟩ := hul
        have f0 := hr.cell 0
        unfold boxG at f0
        dsimp only [List.getElem?_cons_succ, List.getElem?_cons_zero] at f0
        clear hr hb htr htu hrx hux hrr huu
        by_cases hdk : d < K
        · --{bit
          have hd2 : (d : Int) < (K : Int) := by omega
          have HDK := Lib.hid hdk
          have hvr := v_rng HOK.out hdk
          have cr := HWR.out.2 d hdk
          have cu := HWU.out.2 d hdk
          have hqm : (q : Int).tmod 2 = ((q % 2 : Nat) : Int) := Int.ofNat_tmod _ _
          have hqd : (q : Int).tdiv 2 = ((q / 2 : Nat) : Int) := Int.ofNat_tdiv _ _
          have hqb : q % 2 = bit mv d := by rw [hq]; rfl
          obtain ⟨s, hs⟩ : ∃ s, s = q / 2 := ⟨_, rfl⟩
          rw [← hs] at hqd
          have HS : Hid (s = mv / 2 ^ (d + 1) ∧ s < 64) := ⟨by rw [hs, hq, Nat.div_div_eq_div_mul, Nat.pow_succ], by omega⟩
          rw [hqb] at hqm
          have HWRS : Hid (wsum (vR K) (bit mv) (d + 1) = wsum (vR K) (bit mv) d + (bit mv d : Int) * vR K d) := rfl
          have HWUS : Hid (wsum (vU K) (bit mv) (d + 1) = wsum (vU K) (bit mv) d + (bit mv d : Int) * vU K d) := rfl
          have hbl := bit_le mv d
          clear hs hq hqb
          generalize bit mv d = y at hqm HWRS HWUS hbl
          generalize vR K d = r1 at hvr cr HWRS
          generalize vU K d = u1 at hvr cu HWUS
          obtain ⟨⟨hr1a, hr1b⟩, hu1a, hu1b⟩ := hvr
          obtain ⟨hp1, hp2⟩ := bit_mul hbl hr1a hr1b
          obtain ⟨hp3, hp4⟩ := bit_mul hbl hu1a hu1b
          obtain ⟨pr, hpr⟩ : ∃ pr, pr = (y : Int) * r1 := ⟨_, rfl⟩
          obtain ⟨pu, hpu⟩ : ∃ pu, pu = (y : Int) * u1 := ⟨_, rfl⟩
          rw [← hpr] at hp1 hp2 HWRS
          rw [← hpu] at hp3 hp4 HWUS
          have hpr2 := hpr.symm
          have hpu2 := hpu.symm
          clear hpr hpu hdk hbl
          go_wp2_with fail
          go_roundw
          case rel => exact ⟨d + 1, s, rx + pr, ux + pu, HDK.out, by go_num, congrArg (Value.int .i64) (by have := HS.out.2; unfold wrap64; omega), HS.out.1, HS.out.2, by go_num, by go_num, by rw [HRX.out, HWRS.out]; omega, by rw [HUX.out, HWUS.out]; omega, HR.out, HWR.out, HWU.out, HB.out⟩
          case measure => have := HDK.out; simp [RowKit.intOf]; omega
          --}
        · have hdK : d = K := by omega
          have hnl : ¬ (d : Int) < (K : Int) := by omega
          have HE1 : Hid (rx = TR (k + 1)) := by
            show _ = _
            rw [HRX.out, HTRN.out k, HR0.out, hdK, HMV.out]
          have HE2 : Hid (ux = TU (k + 1)) := by
            show _ = _
            rw [HUX.out, HTUN.out k, HU0.out, hdK, HMV.out]
          clear hdK hdk hq
          go_wp2_with fail
          go_roundw
          case rel => exact ⟨k + 1, HKN.out, by go_num, by rw [HE1.out], by rw [HE2.out], HR.out, HWR.out, HWU.out, HB.out⟩
          case measure => have := HKN.out; simp [RowKit.intOf]; omega
      --}
    · obtain rfl : k = n := by omega
      have hnl : ¬ (k : Int) < (k : Int) := by omega
      go_wp2_with fail
      go_ret2
      exact ⟨rfl, HB.out⟩
end Gs
end Go.Proofs.YtekoldebcihdoaaDoor
