/- WALK: gas.Run, where nothing is wrong. -/
import Derived.Test.YtekoldebcihdoaaDoorGsV
import Derived.Deep.RegionWith
namespace Go.Proofs.YtekoldebcihdoaaDoor
set_option linter.unusedSimpArgs false
set_option linter.unusedVariables false
open Go.RowKit
namespace Gs
open Tld Mem

set_option maxHeartbeats 16000000 in
set_option maxRecDepth 1000000 in
theorem run_ok (K W H : Nat) (a : Option Addr) (n c : Nat) (zs : List Int) (ca : Option Addr) (cn cc : Nat) (cs : List Int) (m : Nat) (w : World) (hZ : Ints.Is w a n zs) (hC : Ints.Is w ca cn cs) (hf : rfault K W H zs cs m = 0) :
    Calls Tryd.prog 7 #[gas K W H a n c, .slice ca cn cc, .int .i64 m] w fun e w' => (∃ g c', e = .returned (.tuple #[gas K W H (some ⟨g, 0, none⟩) n c', .nilIface]) ∧ w.heap.size ≤ g ∧ Vec w' g n (runG K W H (coinN cs n) (cN zs) m)) ∧ Below w.heap.size w w' := by
  obtain ⟨hgf, hm0, hm1, hcb, hsix⟩ := rfault_zero hf
  obtain ⟨hsd, hsh, hcl⟩ := gfault_zero hgf
  rw [hZ.len] at hsh
  obtain ⟨hok, hn, hW, hH⟩ := ok_of hsd hsh
  have hn1 : 1 ≤ n := by rw [hn]; exact Nat.mul_pos hok.w hok.h
  have hn2 : n ≤ 10000 := by rw [hn]; exact Nat.mul_le_mul hW hH
  have hK6 : K = 4 ∨ K = 6 := by rcases hok.k with h | h; exact .inl h; exact .inr h.1
  obtain ⟨ab, ao, rfl, _, _⟩ := hZ.cells 0 (by omega)
  have hcle := hC.le
  unfold maxLen at hcle
  have HCR := Lib.hid (cell_rng hok hcl)
  have HCB := Lib.hid hcb
  have HK := Lib.hid (fun w2 (h : Below w.heap.size w w2) => check_any K W H (some ⟨ab, ao, none⟩) n c zs w2 (hZ.keep h))
  rw [hgf, errV_zero rfl] at HK
  have HCC := Lib.hid (fun w2 (h : Below w.heap.size w w2) => ccontains_any ca cn cc cs w2 (hC.keep h))
  rw [hcb] at HCC
  have HCL := Lib.hid (fun w2 (h : Below w.heap.size w w2) => clone_any ⟨ab, ao, none⟩ n c (cN zs) zs w2 hn1 (by omega) (hZ.keep h) (fun k hk => by have := cell_rng hok hcl k; unfold cN; omega))
  have HC := Lib.hid (fun w2 (h : Below w.heap.size w w2) => hC.keep h)
  have HCN := Lib.hid hC.len
  have HN := Lib.hid hn
  have HOK := Lib.hid hok
  have HSX : Hid (¬ (K = 6 ∧ cn = 0)) := by
    rw [hC.len] at hsix
    exact fun h => hsix ⟨by omega, h.2⟩
  have HW := Lib.hid hW
  have HH := Lib.hid hH
  have HK6 := Lib.hid hK6
  have HM := Lib.hid hm1
  clear hZ hC hf hgf hcb hsix hsd hsh hcl hn hok hW hH
  have hK6' : K ≤ 6 := by omega
  have hm2 : m ≤ 100000 := by omega
  have HGF := Lib.hid (fun (g2 : Nat) (c2 : Nat) (k d : Nat) (w2 : World) (hk : k < n) (hd : d < K) => next_any K W H k d (some ⟨g2, 0, none⟩) n c2 w2 HOK.out HW.out HH.out (by rw [← HN.out]; exact hk) hd)
  clear hm0 hm1 hK6
  unfold gas at HK HGF ⊢
  go_enter Tryd.func7, Tryd.ntmps7
  go_upto_region 1 with fail
  obtain ⟨hr5, hr8, hb2⟩ := two_new w 24 24 (boxG K W H (some ⟨ab, ao, none⟩) n c) noGas
  have HR5 : Hid (Row ((w.alloc (.cells #[.int .i64 K, .int .i64 W, .int .i64 H, .slice (some ⟨ab, ao, none⟩) n c] 24)).alloc (.cells #[.int .i64 0, .int .i64 0, .int .i64 0, .slice none 0 0] 24)) w.heap.size 24 (boxG K W H (some ⟨ab, ao, none⟩) n c)) := hr5
  have HR8 : Hid (Row ((w.alloc (.cells #[.int .i64 K, .int .i64 W, .int .i64 H, .slice (some ⟨ab, ao, none⟩) n c] 24)).alloc (.cells #[.int .i64 0, .int .i64 0, .int .i64 0, .slice none 0 0] 24)) (w.heap.size + 1) 24 noGas) := hr8
  have HB : Hid (Below w.heap.size w ((w.alloc (.cells #[.int .i64 K, .int .i64 W, .int .i64 H, .slice (some ⟨ab, ao, none⟩) n c] 24)).alloc (.cells #[.int .i64 0, .int .i64 0, .int .i64 0, .slice none 0 0] 24))) := hb2
  clear hr5 hr8 hb2
  generalize (w.alloc (.cells #[.int .i64 K, .int .i64 W, .int .i64 H, .slice (some ⟨ab, ao, none⟩) n c] 24)).alloc (.cells #[.int .i64 0, .int .i64 0, .int .i64 0, .slice none 0 0] 24) = w1 at *
  obtain ⟨gb, hgb⟩ : ∃ gb, gb = w.heap.size := ⟨_, rfl⟩
  rw [← hgb] at HR5 HR8 ⊢
  obtain ⟨rb, hrb⟩ : ∃ rb, rb = gb + 1 := ⟨_, rfl⟩
  rw [← hrb] at HR8 ⊢
  have HGB := Lib.hid hgb
  have HRB := Lib.hid hrb
  clear hgb hrb
  --{check
  have l5 := row_range HR5.out
  go_wp2_with (refine wpList_load_mid rfl 24 _ rfl gb 0 rfl _ _ l5 Tryd.underlying24 rfl infoGas ?_)
  refine (HK.out _ HB.out).mono ?_
  rintro e2 w2 ⟨rfl, hb2⟩
  have HR5 := Lib.hid (HR5.out.keep hb2 HR5.out.lt)
  have HR8 := Lib.hid (HR8.out.keep hb2 HR8.out.lt)
  have HB := Lib.hid (HB.out.trans (hb2.mono HB.out.size))
  clear hb2 l5 HK
  have f0 := HR5.out.cell 0
  unfold boxG at f0
  dsimp only [List.getElem?_cons_succ, List.getElem?_cons_zero] at f0
  have hlm : ¬ (100000 : Int) < (m : Int) := by omega
  go_wp2_with fail
  refine (HCC.out _ HB.out).mono ?_
  rintro e3 w3 ⟨rfl, hw3⟩
  rw [hw3]
  clear hw3 HCC
  go_upto_region 6 with fail
  go_cut [34] (fun v wx => v = .bool false ∧ wx = w2)
  case first =>
    have hsx := HSX.out
    rcases HK6.out with rfl | rfl
    · go_wp2_with fail
      go_meet
      case rel => exact ⟨rfl, rfl⟩
    · have hc0 : ((cn : Int) == 0) = false := beq_eq_false_iff_ne.2 (by omega)
      have hc1 : ¬ (cn : Int) = 0 := by omega
      have hc2 : ¬ cn = 0 := by omega
      clear hsx
      go_wp2_with fail
      go_meet
      case rel => exact ⟨by simp [hc2], rfl⟩
  case rest =>
  obtain ⟨rfl, hwx⟩ := hcut
  rw [hwx]
  clear hwx HSX f0
  have f3 := HR5.out.cell 3
  have z3 := HR5.out.frozen 3
  unfold boxG at f3
  dsimp only [List.getElem?_cons_succ, List.getElem?_cons_zero] at f3
  go_wp2_with fail
  refine (HCL.out _ HB.out).mono ?_
  rintro e4 w4 ⟨⟨g0, c0, rfl, hg0, hv0⟩, hb4⟩
  have hr5 := HR5.out.keep hb4 HR5.out.lt
  have hr8 := HR8.out.keep hb4 HR8.out.lt
  have hg05 : gb ≠ g0 := by have := HR5.out.lt; omega
  have hg08 : rb ≠ g0 := by have := HR8.out.lt; omega
  have hgw : w.heap.size ≤ g0 := Nat.le_trans HB.out.size hg0
  have HB := Lib.hid (HB.out.trans (hb4.mono HB.out.size))
  clear hb4 HCL f3 z3 HR5 HR8 hg0
  have HR5 : Hid (Row (w4.setCell ⟨gb, 3, none⟩ (.slice (some ⟨g0, 0, none⟩) n c0)) gb 24 (boxG K W H (some ⟨g0, 0, none⟩) n c0)) := hr5.set 3 (.slice (some ⟨g0, 0, none⟩) n c0)
  have HO := Lib.hid (only_setCell w4 gb 3 (.slice (some ⟨g0, 0, none⟩) n c0))
  have HR8 := Lib.hid (hr8.other HO.out (by have := HGB.out; have := HRB.out; omega))
  have HV := Lib.hid (hv0.other HO.out (fun e => hg05 e.symm))
  have f3 := hr5.cell 3
  have z3 := hr5.frozen 3
  unfold boxG at f3
  dsimp only [List.getElem?_cons_succ, List.getElem?_cons_zero] at f3
  have HB := Lib.hid (HB.out.trans (HO.out.below (by have := HGB.out; omega)))
  clear hr5 hr8 hv0 HO
  go_wp2_with fail
  generalize w4.setCell ⟨gb, 3, none⟩ (.slice (some ⟨g0, 0, none⟩) n c0) = w5 at *
  clear f3 z3
  --}
  go_loopw [50] (fun v wr => ∃ i g c', i ≤ m ∧ v = .int .i64 (i : Nat) ∧ w.heap.size ≤ g ∧ gb ≠ g ∧ rb ≠ g ∧ Row wr gb 24 (boxG K W H (some ⟨g, 0, none⟩) n c') ∧ Row wr rb 24 noGas ∧ Vec wr g n (runG K W H (coinN cs n) (cN zs) i) ∧ Below w.heap.size w wr) (fun v _ => m - (RowKit.intOf v).toNat)
  case atStart => exact ⟨0, g0, c0, Nat.zero_le _, rfl, hgw, hg05, hg08, HR5.out, HR8.out, HV.out, HB.out⟩
  case round =>
    clear HR5 HR8 HV HB hg05 hg08 hgw
    obtain ⟨i, g, c', hi, rfl, hgw, hg5, hg8, hr5, hr8, hv, hb⟩ := hrel
    have HGW := Lib.hid hgw
    have HG5 := Lib.hid hg5
    have HG8 := Lib.hid hg8
    have HR5 := Lib.hid hr5
    have HR8 := Lib.hid hr8
    have HV := Lib.hid hv
    have HB := Lib.hid hb
    clear hr5 hr8 hv hb hgw hg5 hg8
    by_cases hlt : i < m
    · --{step
      have hi2 : (i : Int) < (m : Int) := by omega
      have HLT := Lib.hid hlt
      clear hlt
      have f3 := HR5.out.cell 3
      unfold boxG at f3
      dsimp only [List.getElem?_cons_succ, List.getElem?_cons_zero] at f3
      obtain ⟨i0, hI0, hz0, hz1, hz2⟩ := info_parts infoInt1
      have hl5 := HR5.out.lt
      have hl8 := HR8.out.lt
      have hlg := HV.out.lt
      go_upto_region 12 with fail
      go_upto_region 13 with (refine Ops.wpList_make rfl 22 _ _ rfl 3 i0 (.int .i64 0) Tryd.underlying22 hI0 hz0 rfl hz1 (by rw [hz2]; decide) n rfl rfl (by omega) ?_; intro ob w6 hob hb6 hro)
      have HR5 := Lib.hid (HR5.out.keep hb6 HR5.out.lt)
      have HR8 := Lib.hid (HR8.out.keep hb6 HR8.out.lt)
      have HN5 : Hid (gb ≠ ob) := Lib.hid (by omega)
      have HN8 : Hid (rb ≠ ob) := Lib.hid (by omega)
      have HNG : Hid (g ≠ ob) := Lib.hid (by omega)
      have HOW : Hid (w.heap.size ≤ ob) := Lib.hid (Nat.le_trans HB.out.size hob)
      have HV := Lib.hid (HV.out.keep hb6)
      have HB := Lib.hid (HB.out.trans (hb6.mono HB.out.size))
      have HU0 := Lib.hid (vec_made hro)
      clear hob hb6 hro f3 hl5 hl8 hlg hI0 hz0 hz1 hz2
      obtain ⟨R, hR⟩ : ∃ R, R = runG K W H (coinN cs n) (cN zs) i := ⟨_, rfl⟩
      rw [← hR] at HV
      have HRE := Lib.hid hR
      have HRL : Hid (∀ k, R k < 2 ^ K) := fun k => by rw [HRE.out]; exact runG_lt (fun k => (HCR.out k).2) i k
      obtain ⟨F, hF⟩ : ∃ F : Nat → Nat, F = fun k => met K (R k) (coinN cs n i k) := ⟨_, rfl⟩
      have HFE := Lib.hid hF
      have HFL : Hid (∀ k, F k < 64) := fun k => by rw [HFE.out]; exact pow_lt HOK.out (met_lt HOK.out (HRL.out k))
      clear hR hF
      have HU : Hid (Vec w6 ob n (outS K W H id F 0 0)) := HU0.out.congr fun k hk => outS_zero
      clear HU0
      have f3 := HR5.out.cell 3
      unfold boxG at f3
      dsimp only [List.getElem?_cons_succ, List.getElem?_cons_zero] at f3
      go_wp2_with fail
      clear f3
      go_loopw [60] (fun v wr => ∃ k, k ≤ n ∧ v = .int .i64 (k : Nat) ∧ Row wr gb 24 (boxG K W H (some ⟨g, 0, none⟩) n c') ∧ Row wr rb 24 noGas ∧ Vec wr g n R ∧ Vec wr ob n (outS K W H id F k 0) ∧ Below w.heap.size w wr) (fun v _ => n - (RowKit.intOf v).toNat)
      case atStart => exact ⟨0, Nat.zero_le _, rfl, HR5.out, HR8.out, HV.out, HU.out, HB.out⟩
      case round =>
        clear HR5 HR8 HV HU HB
        obtain ⟨k, hk, rfl, hr5, hr8, hv, hu, hb⟩ := hrel
        have HR5 := Lib.hid hr5
        have HR8 := Lib.hid hr8
        have HV := Lib.hid hv
        have HU := Lib.hid hu
        have HB := Lib.hid hb
        clear hr5 hr8 hv hu hb
        by_cases hkn : k < n
        · --{cell
          have hk2 : (k : Int) < (n : Int) := by omega
          have HKN := Lib.hid hkn
          have cg := HV.out.cell hkn
          have f3 := HR5.out.cell 3
          unfold boxG at f3
          dsimp only [List.getElem?_cons_succ, List.getElem?_cons_zero] at f3
          have HI5 : Hid (i ≤ 100000) := Lib.hid (by omega)
          obtain ⟨q, hq⟩ : ∃ q, q = coinN cs n i k := ⟨_, rfl⟩
          have HQ := Lib.hid hq
          clear hkn hq
          go_upto_if 67 with fail
          go_cut [13] (fun v wx => v = .int .i64 (q : Nat) ∧ wx = wr)
          case first =>
            --{coin
            by_cases hc0 : cn = 0
            · have HE : Hid (q = 0) := by
                show _ = _
                rw [HQ.out]
                unfold coinN
                rw [if_pos (by rw [HCN.out]; exact hc0)]
              subst hc0
              go_wp2_with fail
              go_meet
              case rel => exact ⟨by rw [HE.out]; rfl, rfl⟩
            · have hcp : (0 : Int) < (cn : Int) := by omega
              have hc1 : ¬ (cn : Int) = 0 := by omega
              have hc2 : ((cn : Int) == 0) = false := beq_eq_false_iff_ne.2 hc1
              have hc3 : ¬ (cn : Int) = -1 := by omega
              obtain ⟨p, hp⟩ : ∃ p, p = i * n := ⟨_, rfl⟩
              have hpi : (i : Int) * (n : Int) = (p : Int) := by rw [hp]; push_cast; rfl
              have hpl : p ≤ 1000000000 := by rw [hp]; exact Nat.mul_le_mul HI5.out hn2
              obtain ⟨x, hx⟩ : ∃ x, x = (p + k) % cn := ⟨_, rfl⟩
              have hxm : ((p : Int) + (k : Int)).tmod (cn : Int) = (x : Int) := by
                rw [hx, show ((p : Int) + (k : Int)) = ((p + k : Nat) : Int) by push_cast; rfl]
                exact Int.ofNat_tmod _ _
              have hxc : x < cn := by rw [hx]; exact Nat.mod_lt _ (by omega)
              have hxc2 : (x : Int) < (cn : Int) := by omega
              obtain ⟨qb, qo, rfl, _, hqc⟩ := (HC.out wr HB.out).cells x hxc
              dsimp only at hqc
              have HE : Hid (cs.getD x 0 = (q : Nat)) := by
                show _ = _
                rw [HQ.out]
                unfold coinN
                rw [if_neg (by rw [HCN.out]; exact hc0), HCN.out, ← hp, ← hx]
                have := coin_rng HCB.out x
                omega
              rw [HE.out] at hqc
              clear hp hx hxc hc0
              go_wp2_with fail
              go_meet
              case rel => exact ⟨rfl, rfl⟩
            --}
          case rest =>
          obtain ⟨rfl, hwx⟩ := hcut
          rw [hwx]
          clear hwx cg f3
          have HME : Hid (∀ w2, Calls Tryd.prog 21 #[.int .i64 K, .int .i64 (R k : Nat), .int .i64 (q : Nat)] w2 fun e w' => e = .returned (.int .i64 (F k : Nat)) ∧ Below w2.heap.size w2 w') := Lib.hid (fun w2 => by
            have h1 := HRL.out k
            have h2 := coinN_lt HCB.out n i k
            have h3 := meet_any K (R k) q w2 (by
              rcases HK6.out with rfl | rfl
              · exact .inl ⟨rfl, h1⟩
              · exact .inr ⟨rfl, h1⟩) (by rw [HQ.out]; omega)
            have e : F k = met K (R k) q := by rw [HQ.out]; exact congrFun HFE.out k
            rw [e]
            exact h3)
          have f0 := HR5.out.cell 0
          unfold boxG at f0
          dsimp only [List.getElem?_cons_succ, List.getElem?_cons_zero] at f0
          go_wp2_with fail
          refine (HME.out wr).mono ?_
          rintro e7 w7 ⟨rfl, hb7⟩
          have HR5 := Lib.hid (HR5.out.keep hb7 HR5.out.lt)
          have HR8 := Lib.hid (HR8.out.keep hb7 HR8.out.lt)
          have HV := Lib.hid (HV.out.keep hb7)
          have HU := Lib.hid (HU.out.keep hb7)
          have HB := Lib.hid (HB.out.trans (hb7.mono HB.out.size))
          clear hb7 HME f0
          obtain ⟨mv, hmv⟩ : ∃ mv, mv = F k := ⟨_, rfl⟩
          rw [← hmv]
          have hm64 : mv < 64 := by rw [hmv]; exact HFL.out k
          have HMV := Lib.hid hmv
          have HM64 := Lib.hid hm64
          clear hmv hm64
          have f0 := HR5.out.cell 0
          unfold boxG at f0
          dsimp only [List.getElem?_cons_succ, List.getElem?_cons_zero] at f0
          go_wp2_with fail
          clear f0
          go_loopw [88] (fun v wr => ∃ d, d ≤ K ∧ v = .int .i64 (d : Nat) ∧ Row wr gb 24 (boxG K W H (some ⟨g, 0, none⟩) n c') ∧ Row wr rb 24 noGas ∧ Vec wr g n R ∧ Vec wr ob n (outS K W H id F k d) ∧ Below w.heap.size w wr) (fun v _ => K - (RowKit.intOf v).toNat)
          case atStart => exact ⟨0, Nat.zero_le _, rfl, HR5.out, HR8.out, HV.out, HU.out, HB.out⟩
          case round =>
            clear HR5 HR8 HV HU HB
            obtain ⟨d, hd, rfl, hr5, hr8, hv, hu, hb⟩ := hrel
            have HR5 := Lib.hid hr5
            have HR8 := Lib.hid hr8
            have HV := Lib.hid hv
            have HU := Lib.hid hu
            have HB := Lib.hid hb
            clear hr5 hr8 hv hu hb
            by_cases hdk : d < K
            · --{bit
              have hd2 : (d : Int) < (K : Int) := by omega
              have hd6 : d < 6 := by omega
              have q1 := and_fin d hd6 mv HM64.out
              have HDK := Lib.hid hdk
              have HKW : Hid (k < W * H) := Lib.hid (by rw [← HN.out]; exact HKN.out)
              by_cases hbit : bit mv d = 1
              · rw [hbit] at q1
                obtain ⟨j, hj⟩ : ∃ j, j = nxt K W H k d := ⟨_, rfl⟩
                have hjn : j < n := by rw [hj, HN.out]; exact nxt_lt HOK.out
                obtain ⟨y, hy⟩ : ∃ y, y = outS K W H id F k d j := ⟨_, rfl⟩
                have hy64 : y < 64 := by rw [hy]; exact pow_lt HOK.out outS_lt
                have hyb : bit y d = 0 := by rw [hy, hj]; exact outS_free (r := id) HOK.out (ord_id K) HKW.out hdk
                have q2 := or_fin d hd6 y hy64 hyb
                have q3 := pow_fin d hd6
                have q4 := pow_fin2 d hd6
                have HNX := Lib.hid (fun w2 => HGF.out g c' k d w2 HKN.out hdk)
                rw [← hj] at HNX
                have HY : Hid (∀ k', k' < n → k' ≠ j → outS K W H id F k (d + 1) k' = outS K W H id F k d k') := fun k' hk' hne => outS_else (r := id) HOK.out (ord_id K) HKW.out (by rw [← HN.out]; exact hk') hdk (fun e => hne (by rw [e, hj]; rfl))
                have HY2 : Hid (outS K W H id F k (d + 1) j = y + 2 ^ d) := by
                  show _ = _
                  rw [hy, hj]
                  exact outS_hit (r := id) HOK.out (ord_id K) HKW.out hdk (by rw [← HMV.out]; exact hbit)
                have hj2 : (j : Int) < (n : Int) := by omega
                have HJN := Lib.hid hjn
                have HYE := Lib.hid hy
                obtain ⟨yy, hyy⟩ : ∃ yy, yy = y + 2 ^ d := ⟨_, rfl⟩
                rw [← hyy] at q2 HY2
                have f0 := HR5.out.cell 0
                have f1 := HR5.out.cell 1
                have f2 := HR5.out.cell 2
                have f3 := HR5.out.cell 3
                unfold boxG at f0 f1 f2 f3
                dsimp only [List.getElem?_cons_succ, List.getElem?_cons_zero] at f0 f1 f2 f3
                clear hbit hj hjn hy hy64 hyb hyy hdk HGF
                go_upto_region 24 with fail
                have hdr : Below wr.heap.size wr wr.drew := (Below.refl _ _).drew
                have HNX := Lib.hid (HNX.out wr.drew)
                go_region_with (
                  (go_at_call 22
                   refine HNX.out.mono ?_
                   rintro e8 w8 ⟨rfl, hb8⟩
                   have cy := ((HU.out.keep hdr).keep hb8).cell HJN.out
                   have zy := ((HU.out.keep hdr).keep hb8).frozen j
                   rw [← HYE.out] at cy))
                all_goals
                  (try rw [q4])
                  (try rw [q2])
                  have HO9 := Lib.hid (only_setCell w8 ob j (.int .i64 (yy : Nat)))
                  have HU9 := Lib.hid (((HU.out.keep hdr).keep hb8).set HJN.out HY.out HY2.out)
                  have HR59 := Lib.hid (((HR5.out.keep hdr HR5.out.lt).keep hb8 (HR5.out.keep hdr HR5.out.lt).lt).other HO9.out HN5.out)
                  have HR89 := Lib.hid (((HR8.out.keep hdr HR8.out.lt).keep hb8 (HR8.out.keep hdr HR8.out.lt).lt).other HO9.out HN8.out)
                  have HV9 := Lib.hid (((HV.out.keep hdr).keep hb8).other HO9.out HNG.out)
                  have HB9 := Lib.hid ((HB.out.trans ((hdr.trans (hb8.mono hdr.size)).mono HB.out.size)).trans (HO9.out.below HOW.out))
                  clear HU HR5 HR8 HV HB hb8 hdr HNX HO9 cy zy f0 f1 f2 f3
                  generalize w8.setCell ⟨ob, j, none⟩ (.int .i64 (yy : Nat)) = w9 at *
                  go_wp2_with fail
                  go_roundw
                  case rel => exact ⟨d + 1, HDK.out, by go_num, HR59.out, HR89.out, HV9.out, HU9.out, HB9.out⟩
                  case measure => have := HDK.out; simp [RowKit.intOf]; omega
              · have hb0 : bit mv d = 0 := by have := bit_le mv d; omega
                rw [hb0] at q1
                have HUN : Hid (Vec wr ob n (outS K W H id F k (d + 1))) := HU.out.congr fun k' hk' => outS_skip (r := id) HOK.out (ord_id K) HKW.out hdk (by rw [← HMV.out]; exact hb0) (by rw [← HN.out]; exact hk')
                clear hbit hb0 HU
                go_wp2_with fail
                go_roundw
                case rel => exact ⟨d + 1, HDK.out, by go_num, HR5.out, HR8.out, HV.out, HUN.out, HB.out⟩
                case measure => have := HDK.out; simp [RowKit.intOf]; omega
              --}
            · have hdK : d = K := by omega
              have hnl : ¬ (d : Int) < (K : Int) := by omega
              have HUN : Hid (Vec wr ob n (outS K W H id F (k + 1) 0)) := HU.out.congr fun k' hk' => by
                rw [hdK]
                exact (outS_cell (ord_id K)).symm
              clear HU hdK hdk
              go_wp2_with fail
              go_roundw
              case rel => exact ⟨k + 1, HKN.out, by go_num, HR5.out, HR8.out, HV.out, HUN.out, HB.out⟩
              case measure => have := HKN.out; simp [RowKit.intOf]; omega
          --}
        · --{cdone
          obtain rfl : k = n := by omega
          have HUN : Hid (Vec wr ob k (runG K W H (coinN cs k) (cN zs) (i + 1))) := HU.out.congr fun k' hk' => by
            rw [runG_next, ← HRE.out, ← HFE.out]
            have := outS_all (r := id) (f := F) (j := k') HOK.out
            rw [← HN.out] at this
            exact this.symm
          have f3 := HR5.out.cell 3
          have z3 := HR5.out.frozen 3
          unfold boxG at f3
          dsimp only [List.getElem?_cons_succ, List.getElem?_cons_zero] at f3
          have hr5 : Row (wr.setCell ⟨gb, 3, none⟩ (.slice (some ⟨ob, 0, none⟩) k k)) gb 24 (boxG K W H (some ⟨ob, 0, none⟩) k k) := HR5.out.set 3 (.slice (some ⟨ob, 0, none⟩) k k)
          have HO := Lib.hid (only_setCell wr gb 3 (.slice (some ⟨ob, 0, none⟩) k k))
          have hr8 := HR8.out.other HO.out (by have := HRB.out; omega)
          have hun := HUN.out.other HO.out (fun e => HN5.out e.symm)
          have hbn := HB.out.trans (HO.out.below (by have := HGB.out; omega))
          have HR5 := Lib.hid hr5
          have HR8 := Lib.hid hr8
          have HUN := Lib.hid hun
          have HB := Lib.hid hbn
          clear hr5 hr8 hun hbn HO HU HV
          go_wp2_with fail
          go_roundw
          case rel => exact ⟨i + 1, ob, k, HLT.out, by go_num, HOW.out, HN5.out, HN8.out, HR5.out, HR8.out, HUN.out, HB.out⟩
          case measure => have := HLT.out; simp [RowKit.intOf]; omega
          --}
      --}
    · --{done
      obtain rfl : i = m := by omega
      have l5 := row_range HR5.out
      have hnl : ¬ (i : Int) < (i : Int) := by omega
      go_wp2_with (first | (refine wpList_load_mid rfl 24 _ rfl gb 0 rfl _ _ l5 Tryd.underlying24 rfl infoGas ?_) | (refine Ops.wpList_store_arr rfl 24 _ _ rfl rb rfl 24 _ _ rfl HR8.out rfl infoGas (boxG_one _ _ _ _ _ _) ?_; intro w5 hrow5 hon5))
      refine bodyPost_ret (results_gas (t := 6) (u := 7) (e := .nilIface) rfl _ _ hrow5 rfl rfl rfl) rfl ⟨⟨g, ⟨c', rfl⟩, HGW.out, HV.out.other hon5 (fun e => HG8.out e.symm)⟩, HB.out.trans (hon5.below (by have := HGB.out; have := HRB.out; omega))⟩
      --}
end Gs
end Go.Proofs.YtekoldebcihdoaaDoor
