/- WALK: gas.Push. -/
import Derived.Test.YtekoldebcihdoaaDoorGsV
namespace Go.Proofs.YtekoldebcihdoaaDoor
set_option linter.unusedSimpArgs false
set_option linter.unusedVariables false
open Go.RowKit
namespace Gs
open Tld Mem

def w4 : List Value := [.int .i64 1, .int .i64 0, .int .i64 0, .int .i64 1, .int .i64 (-1), .int .i64 0, .int .i64 0, .int .i64 (-1)]
def w6 : List Value := [.int .i64 1, .int .i64 0, .int .i64 0, .int .i64 1, .int .i64 (-1), .int .i64 1, .int .i64 (-1), .int .i64 0, .int .i64 0, .int .i64 (-1), .int .i64 1, .int .i64 (-1)]
/-- The directions' table. -/
def Ways (w : World) (b K : Nat) : Prop := b < w.heap.size ∧ ∀ d, d < K → w.cell? ⟨b, d * 2, none⟩ = some (.int .i64 (vR K d)) ∧ w.cell? ⟨b, d * 2 + 1, none⟩ = some (.int .i64 (vU K d))
theorem Ways.keep {w w' : World} {b K : Nat} (h : Ways w b K) (hb : Below w.heap.size w w') : Ways w' b K :=
  ⟨Nat.lt_of_lt_of_le h.1 hb.size, fun d hd => by
    rw [hb.cell (p := ⟨b, d * 2, none⟩) h.1, hb.cell (p := ⟨b, d * 2 + 1, none⟩) h.1]
    exact h.2 d hd⟩
theorem ways4 {w : World} {b : Nat} {T : TypeId} (h : Row w b T w4) : Ways w b 4 := ⟨h.lt, fun d hd => by
  rw [h.cell, h.cell]
  match d, hd with
  | 0, _ => exact ⟨rfl, rfl⟩
  | 1, _ => exact ⟨rfl, rfl⟩
  | 2, _ => exact ⟨rfl, rfl⟩
  | 3, _ => exact ⟨rfl, rfl⟩⟩
theorem ways6 {w : World} {b : Nat} {T : TypeId} (h : Row w b T w6) : Ways w b 6 := ⟨h.lt, fun d hd => by
  rw [h.cell, h.cell]
  match d, hd with
  | 0, _ => exact ⟨rfl, rfl⟩
  | 1, _ => exact ⟨rfl, rfl⟩
  | 2, _ => exact ⟨rfl, rfl⟩
  | 3, _ => exact ⟨rfl, rfl⟩
  | 4, _ => exact ⟨rfl, rfl⟩
  | 5, _ => exact ⟨rfl, rfl⟩⟩
theorem Ways.range {w : World} {b K d : Nat} (h : Ways w b K) (hd : d < K) : w.rangeAt b (d * 2) [.int .i64 (vR K d), .int .i64 (vU K d)] := fun j v hv => by
  match j, hv with
  | 0, hv => simp at hv; subst hv; exact (h.2 d hd).1
  | 1, hv => simp at hv; subst hv; exact (h.2 d hd).2
  | j + 2, hv => simp at hv
theorem v_rng {K W H d : Nat} (h : Ok K W H) (hd : d < K) : (-1 ≤ vR K d ∧ vR K d ≤ 1) ∧ -1 ≤ vU K d ∧ vU K d ≤ 1 := by
  rcases h.k with rfl | ⟨rfl, _⟩
  · have : ∀ d, d < 4 → (-1 ≤ vR 4 d ∧ vR 4 d ≤ 1) ∧ -1 ≤ vU 4 d ∧ vU 4 d ≤ 1 := by decide
    exact this d hd
  · have : ∀ d, d < 6 → (-1 ≤ vR 6 d ∧ vR 6 d ≤ 1) ∧ -1 ≤ vU 6 d ∧ vU 6 d ≤ 1 := by decide
    exact this d hd
theorem bit_mul {b : Nat} {x : Int} (hb : b ≤ 1) (h1 : -1 ≤ x) (h2 : x ≤ 1) : -1 ≤ (b : Int) * x ∧ (b : Int) * x ≤ 1 := by
  have : b = 0 ∨ b = 1 := by omega
  rcases this with rfl | rfl
  · rw [show ((0 : Nat) : Int) * x = 0 by simp]; omega
  · rw [show ((1 : Nat) : Int) * x = x by simp]; omega
theorem wsum_rng {v : Nat → Int} {b : Nat → Nat} (hb : ∀ e, b e ≤ 1) : ∀ n, (∀ e, e < n → -1 ≤ v e ∧ v e ≤ 1) → -(n : Int) ≤ wsum v b n ∧ wsum v b n ≤ n
  | 0, _ => by unfold wsum; simp
  | n + 1, h => by
    have h1 := wsum_rng hb n fun e he => h e (by omega)
    have h2 := h n (by omega)
    have h3 := bit_mul (hb n) h2.1 h2.2
    unfold wsum
    omega
theorem tot_rng {F : Nat → Int} {m : Nat} (h : ∀ j, -(m : Int) ≤ F j ∧ F j ≤ m) : ∀ n : Nat, -((m * n : Nat) : Int) ≤ tot F n ∧ tot F n ≤ ((m * n : Nat) : Int)
  | 0 => by unfold tot; simp
  | n + 1 => by
    have h1 := tot_rng h n
    have h2 := h n
    unfold tot
    rw [Nat.mul_succ]
    omega
theorem infoTwo : (Tryd.prog.info? 53).map (·.size) = some 2 := by kernel_rfl

set_option maxHeartbeats 16000000 in
set_option maxRecDepth 1000000 in
theorem push_ok (K W H : Nat) (a : Option Addr) (n c : Nat) (zs : List Int) (w : World) (hZ : Ints.Is w a n zs) (hf : gfault K W H zs = 0) :
    Calls Tryd.prog 11 #[gas K W H a n c] w fun e w' => e = .returned (.tuple #[.int .i64 (tot (fun j => cw K (vR K) (cN zs j)) n), .int .i64 (tot (fun j => cw K (vU K) (cN zs j)) n), .nilIface]) ∧ Below w.heap.size w w' := by
  obtain ⟨hsd, hsh, hcl⟩ := gfault_zero hf
  rw [hZ.len] at hsh
  obtain ⟨hok, hn, hW, hH⟩ := ok_of hsd hsh
  have hn2 : n ≤ 10000 := by rw [hn]; exact Nat.mul_le_mul hW hH
  have hK6 : K = 4 ∨ K = 6 := by rcases hok.k with h | h; exact .inl h; exact .inr h.1
  have HCR := Lib.hid (cell_rng hok hcl)
  have HK := Lib.hid (fun w2 (h : Below w.heap.size w w2) => check_any K W H a n c zs w2 (hZ.keep h))
  rw [hf, errV_zero rfl] at HK
  have HZ := Lib.hid (fun w2 (h : Below w.heap.size w w2) => hZ.keep h)
  have HFL : Hid (∀ k, cN zs k < 64) := fun k => pow_lt hok (HCR.out k).2
  have HCV : Hid (∀ k, zs.getD k 0 = ((cN zs k : Nat) : Int)) := fun k => by
    have := (HCR.out k).1
    unfold cN
    omega
  have HOK := Lib.hid hok
  have HK6 := Lib.hid hK6
  have hKl : K ≤ 6 := by omega
  clear hZ hf hsd hsh hcl hn hok hW hH hK6
  obtain ⟨F, hF⟩ : ∃ F, F = cN zs := ⟨_, rfl⟩
  rw [← hF] at HFL HCV ⊢
  clear hF HCR
  obtain ⟨TR, hTR⟩ : ∃ TR, TR = tot (fun j => cw K (vR K) (F j)) := ⟨_, rfl⟩
  obtain ⟨TU, hTU⟩ : ∃ TU, TU = tot (fun j => cw K (vU K) (F j)) := ⟨_, rfl⟩
  rw [← hTR, ← hTU]
  have HTR : Hid (∀ k, -(((6 * k : Nat)) : Int) ≤ TR k ∧ TR k ≤ ((6 * k : Nat) : Int)) := fun k => by
    rw [hTR]
    refine tot_rng (fun j => ?_) k
    have := wsum_rng (v := vR K) (b := bit (F j)) (fun e => bit_le _ e) K fun e he => (v_rng HOK.out he).1
    unfold cw
    omega
  have HTU : Hid (∀ k, -(((6 * k : Nat)) : Int) ≤ TU k ∧ TU k ≤ ((6 * k : Nat) : Int)) := fun k => by
    rw [hTU]
    refine tot_rng (fun j => ?_) k
    have := wsum_rng (v := vU K) (b := bit (F j)) (fun e => bit_le _ e) K fun e he => (v_rng HOK.out he).2
    unfold cw
    omega
  have HTRN : Hid (∀ k, TR (k + 1) = TR k + wsum (vR K) (bit (F k)) K) := fun k => by rw [hTR]; rfl
  have HTUN : Hid (∀ k, TU (k + 1) = TU k + wsum (vU K) (bit (F k)) K) := fun k => by rw [hTU]; rfl
  have HT0 : Hid (TR 0 = 0 ∧ TU 0 = 0) := by show _ ∧ _; rw [hTR, hTU]; exact ⟨rfl, rfl⟩
  clear hTR hTU
  unfold gas at HK ⊢
  go_enter Tryd.func11, Tryd.ntmps11
  go_upto_region 1 with fail
  have hr0 : Row (w.alloc (.cells #[.int .i64 K, .int .i64 W, .int .i64 H, .slice a n c] 24)) w.heap.size 24 (boxG K W H a n c) := row_alloc w _ _
  have hb0 : Below w.heap.size w (w.alloc (.cells #[.int .i64 K, .int .i64 W, .int .i64 H, .slice a n c] 24)) := (Below.refl _ _).alloc (Nat.le_refl _) _
  have HR := Lib.hid hr0
  have HB := Lib.hid hb0
  clear hr0 hb0
  generalize w.alloc (.cells #[.int .i64 K, .int .i64 W, .int .i64 H, .slice a n c] 24) = w1 at *
  obtain ⟨g, hg⟩ : ∃ g, g = w.heap.size := ⟨_, rfl⟩
  rw [← hg] at HR ⊢
  clear hg
  have l5 := row_range HR.out
  go_wp2_with (refine wpList_load_mid rfl 24 _ rfl g 0 rfl _ _ l5 Tryd.underlying24 rfl infoGas ?_)
  refine (HK.out _ HB.out).mono ?_
  rintro e2 w2 ⟨rfl, hb2⟩
  have HR := Lib.hid (HR.out.keep hb2 HR.out.lt)
  have HB := Lib.hid (HB.out.trans (hb2.mono HB.out.size))
  clear hb2 l5 HK
  go_upto_region 6 with fail
  obtain ⟨hw4, hw6, hb3⟩ := two_new w2 53 53 w4 w6
  have HW4 : Hid (Ways ((w2.alloc (.cells #[.int .i64 1, .int .i64 0, .int .i64 0, .int .i64 1, .int .i64 (-1), .int .i64 0, .int .i64 0, .int .i64 (-1)] 53)).alloc (.cells #[.int .i64 1, .int .i64 0, .int .i64 0, .int .i64 1, .int .i64 (-1), .int .i64 1, .int .i64 (-1), .int .i64 0, .int .i64 0, .int .i64 (-1), .int .i64 1, .int .i64 (-1)] 53)) w2.heap.size 4) := ways4 hw4
  have HW6 : Hid (Ways ((w2.alloc (.cells #[.int .i64 1, .int .i64 0, .int .i64 0, .int .i64 1, .int .i64 (-1), .int .i64 0, .int .i64 0, .int .i64 (-1)] 53)).alloc (.cells #[.int .i64 1, .int .i64 0, .int .i64 0, .int .i64 1, .int .i64 (-1), .int .i64 1, .int .i64 (-1), .int .i64 0, .int .i64 0, .int .i64 (-1), .int .i64 1, .int .i64 (-1)] 53)) (w2.heap.size + 1) 6) := ways6 hw6
  have HB3 : Hid (Below w2.heap.size w2 ((w2.alloc (.cells #[.int .i64 1, .int .i64 0, .int .i64 0, .int .i64 1, .int .i64 (-1), .int .i64 0, .int .i64 0, .int .i64 (-1)] 53)).alloc (.cells #[.int .i64 1, .int .i64 0, .int .i64 0, .int .i64 1, .int .i64 (-1), .int .i64 1, .int .i64 (-1), .int .i64 0, .int .i64 0, .int .i64 (-1), .int .i64 1, .int .i64 (-1)] 53))) := hb3
  clear hw4 hw6 hb3
  generalize (w2.alloc (.cells #[.int .i64 1, .int .i64 0, .int .i64 0, .int .i64 1, .int .i64 (-1), .int .i64 0, .int .i64 0, .int .i64 (-1)] 53)).alloc (.cells #[.int .i64 1, .int .i64 0, .int .i64 0, .int .i64 1, .int .i64 (-1), .int .i64 1, .int .i64 (-1), .int .i64 0, .int .i64 0, .int .i64 (-1), .int .i64 1, .int .i64 (-1)] 53) = w3 at *
  have HR := Lib.hid (HR.out.keep HB3.out HR.out.lt)
  have HB := Lib.hid (HB.out.trans (HB3.out.mono HB.out.size))
  clear HB3
  have f0 := HR.out.cell 0
  unfold boxG at f0
  dsimp only [List.getElem?_cons_succ, List.getElem?_cons_zero] at f0
  go_upto_if 33 with fail
  go_cut [8] (fun v wx => ∃ bw, v = .slice (some ⟨bw, 0, none⟩) K K ∧ Ways wx bw K ∧ wx = w3)
  case first =>
    rcases HK6.out with rfl | rfl
    · go_wp2_with fail
      go_meet
      case rel => exact ⟨_, rfl, HW4.out, rfl⟩
    · go_wp2_with fail
      go_meet
      case rel => exact ⟨_, rfl, HW6.out, rfl⟩
  case rest =>
  obtain ⟨bw, rfl, hwy, hwx⟩ := hcut
  rw [hwx] at hwy ⊢
  have HWY := Lib.hid hwy
  clear hwy hwx HW4 HW6 f0
  have f3 := HR.out.cell 3
  unfold boxG at f3
  dsimp only [List.getElem?_cons_succ, List.getElem?_cons_zero] at f3
  go_wp2_with fail
  clear f3
  go_loopw [2, 3, 38] (fun r u v wr => ∃ k : Nat, k ≤ n ∧ v = .int .i64 (k : Nat) ∧ r = .int .i64 (TR k) ∧ u = .int .i64 (TU k) ∧ Ways wr bw K ∧ Below w.heap.size w wr) (fun _ _ v _ => n - (RowKit.intOf v).toNat)
  case atStart => exact ⟨0, Nat.zero_le _, rfl, by rw [HT0.out.1], by rw [HT0.out.2], HWY.out, HB.out⟩
  case round =>
    clear HR HB HWY
    obtain ⟨k, hk, rfl, rfl, rfl, hwy, hb⟩ := hrel
    have HB := Lib.hid hb
    have HWY := Lib.hid hwy
    clear hb hwy
    by_cases hkn : k < n
    · --{cell
      have hk2 : (k : Int) < (n : Int) := by omega
      have HKN := Lib.hid hkn
      obtain ⟨ab, ao, rfl, _, cg⟩ := (HZ.out wr HB.out).cells k hkn
      dsimp only at cg
      rw [HCV.out k] at cg
      obtain ⟨mv, hmv⟩ : ∃ mv, mv = F k := ⟨_, rfl⟩
      rw [← hmv] at cg
      have HM64 : Hid (mv < 64) := by show _; rw [hmv]; exact HFL.out k
      have HMV := Lib.hid hmv
      have hr1 := HTR.out k
      have hu1 := HTU.out k
      obtain ⟨r0, hr0⟩ : ∃ r0, r0 = TR k := ⟨_, rfl⟩
      obtain ⟨u0, hu0⟩ : ∃ u0, u0 = TU k := ⟨_, rfl⟩
      rw [← hr0] at hr1 ⊢
      rw [← hu0] at hu1 ⊢
      have HR0 := Lib.hid hr0
      have HU0 := Lib.hid hu0
      have hr2 : -60000 ≤ r0 ∧ r0 ≤ 60000 := by omega
      have hu2 : -60000 ≤ u0 ∧ u0 ≤ 60000 := by omega
      have HR2 := Lib.hid hr2
      have HU2 := Lib.hid hu2
      clear hmv hkn hr0 hu0 hr1 hu1 hr2 hu2
      go_wp2_with fail
      clear cg
      go_loopw [2, 3, 44] (fun r u v wr => ∃ d : Nat, ∃ rx ux : Int, d ≤ K ∧ v = .int .i64 (d : Nat) ∧ r = .int .i64 rx ∧ u = .int .i64 ux ∧ rx = r0 + wsum (vR K) (bit mv) d ∧ ux = u0 + wsum (vU K) (bit mv) d ∧ Ways wr bw K ∧ Below w.heap.size w wr) (fun _ _ v _ => K - (RowKit.intOf v).toNat)
      case atStart => exact ⟨0, r0, u0, Nat.zero_le _, rfl, rfl, rfl, by unfold wsum; simp, by unfold wsum; simp, HWY.out, HB.out⟩
      case round =>
        clear HWY HB
        obtain ⟨d, rx, ux, hd, rfl, rfl, rfl, hrx, hux, hwy, hb⟩ := hrel
        have HB := Lib.hid hb
        have HWY := Lib.hid hwy
        have HRX := Lib.hid hrx
        have HUX := Lib.hid hux
        have hrr := wsum_rng (v := vR K) (b := bit mv) (fun e => bit_le _ e) d fun e he => (v_rng HOK.out (by omega)).1
        have huu := wsum_rng (v := vU K) (b := bit mv) (fun e => bit_le _ e) d fun e he => (v_rng HOK.out (by omega)).2
        have hrl : -60006 ≤ rx ∧ rx ≤ 60006 := by have := HR2.out; omega
        have hul : -60006 ≤ ux ∧ ux ≤ 60006 := by have := HU2.out; omega
        obtain ⟨hrl1, hrl2⟩ := hrl
        obtain ⟨hul1, hul2⟩ := hul
        clear hb hwy hrx hux hrr huu
        by_cases hdk : d < K
        · --{bit
          have hd2 : (d : Int) < (K : Int) := by omega
          have hd6 : d < 6 := by omega
          have q1 := and_fin d hd6 mv HM64.out
          have HDK := Lib.hid hdk
          have hvr := v_rng HOK.out hdk
          have lr := HWY.out.range hdk
          have HWR : Hid (wsum (vR K) (bit mv) (d + 1) = wsum (vR K) (bit mv) d + (bit mv d : Int) * vR K d) := rfl
          have HWU : Hid (wsum (vU K) (bit mv) (d + 1) = wsum (vU K) (bit mv) d + (bit mv d : Int) * vU K d) := rfl
          have hbl := bit_le mv d
          generalize bit mv d = y at *
          generalize vR K d = r1 at *
          generalize vU K d = u1 at *
          obtain ⟨⟨hr1a, hr1b⟩, hu1a, hu1b⟩ := hvr
          obtain ⟨hp1, hp2⟩ := bit_mul hbl hr1a hr1b
          obtain ⟨hp3, hp4⟩ := bit_mul hbl hu1a hu1b
          obtain ⟨pr, hpr⟩ : ∃ pr, pr = (y : Int) * r1 := ⟨_, rfl⟩
          obtain ⟨pu, hpu⟩ : ∃ pu, pu = (y : Int) * u1 := ⟨_, rfl⟩
          rw [← hpr] at hp1 hp2 HWR
          rw [← hpu] at hp3 hp4 HWU
          have hpr2 := hpr.symm
          have hpu2 := hpu.symm
          clear hpr hpu hdk hbl
          go_upto_region 15 with (refine wpList_load_mid rfl 53 _ rfl bw (d * 2) rfl _ _ lr Tryd.underlying53 rfl infoTwo ?_)
          have hb2 : Below wr.heap.size wr (wr.alloc (.cells #[.int .i64 r1, .int .i64 u1] 53)) := (Below.refl _ _).alloc (Nat.le_refl _) _
          have hro : Row (wr.alloc (.cells #[.int .i64 r1, .int .i64 u1] 53)) wr.heap.size 53 [.int .i64 r1, .int .i64 u1] := row_alloc wr _ _
          obtain ⟨b9, hb9⟩ : ∃ b9, b9 = wr.heap.size := ⟨_, rfl⟩
          rw [← hb9] at hro ⊢
          have HWY := Lib.hid (HWY.out.keep hb2)
          have HB := Lib.hid (HB.out.trans (hb2.mono HB.out.size))
          clear hb2 hb9 lr
          generalize wr.alloc (.cells #[.int .i64 r1, .int .i64 u1] 53) = w9 at *
          have g0 := hro.cell 0
          have g1 := hro.cell 1
          dsimp only [List.getElem?_cons_succ, List.getElem?_cons_zero] at g0 g1
          clear hro
          go_big_quiet (fail)
          go_upto_region 16 with fail
          go_big_quiet (fail)
          go_wp2_with fail
          go_roundw
          case rel => exact ⟨d + 1, rx + pr, ux + pu, HDK.out, by go_num, rfl, rfl, by rw [HRX.out, HWR.out]; omega, by rw [HUX.out, HWU.out]; omega, ⟨HWY.out.1, HWY.out.2⟩, below_n HB.out _⟩
          case measure => have := HDK.out; simp [RowKit.intOf]; omega
          --}
        · have hdK : d = K := by omega
          have hnl : ¬ (d : Int) < (K : Int) := by omega
          have HE1 : Hid (rx = TR (k + 1)) := by
            show _ = _
            rw [HRX.out, HTRN.out k, HR0.out, hdK, HMV.out]
          have HE2 : Hid (ux = TU (k + 1)) := by
            show _ = _
            rw [HUX.out, HTUN.out k, HU0.out, hdK, HMV.out]
          clear hdK hdk
          go_wp2_with fail
          go_roundw
          case rel => exact ⟨k + 1, HKN.out, by go_num, by rw [HE1.out], by rw [HE2.out], HWY.out, HB.out⟩
          case measure => have := HKN.out; simp [RowKit.intOf]; omega
      --}
    · obtain rfl : k = n := by omega
      have hnl : ¬ (k : Int) < (k : Int) := by omega
      go_wp2_with fail
      go_ret3
      exact ⟨rfl, HB.out⟩
end Gs
end Go.Proofs.YtekoldebcihdoaaDoor
