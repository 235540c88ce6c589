/- WALK: gas.Turned, where nothing is wrong. -/
import Derived.Test.YtekoldebcihdoaaDoorGsV
import Derived.Deep.RegionWith
namespace Go.Proofs.YtekoldebcihdoaaDoor
set_option linter.unusedSimpArgs false
set_option linter.unusedVariables false
open Go.RowKit
namespace Gs
open Tld Mem

set_option maxHeartbeats 16000000 in
set_option maxRecDepth 1000000 in
theorem turned_ok (K W H : Nat) (a : Option Addr) (n c : Nat) (zs : List Int) (w : World) (hZ : Ints.Is w a n zs) (hf : gfault K W H zs = 0) :
    Calls Tryd.prog 12 #[gas K W H a n c] w fun e w' => (∃ g c', e = .returned (.tuple #[gas K W H (some ⟨g, 0, none⟩) n c', .nilIface]) ∧ w.heap.size ≤ g ∧ Vec w' g n (trn K W H (cN zs))) ∧ Below w.heap.size w w' := by
  obtain ⟨hsd, hsh, hcl⟩ := gfault_zero hf
  rw [hZ.len] at hsh
  obtain ⟨hok, hn, hW, hH⟩ := ok_of hsd hsh
  have hn1 : 1 ≤ n := by rw [hn]; exact Nat.mul_pos hok.w hok.h
  have hn2 : n ≤ 10000 := by rw [hn]; exact Nat.mul_le_mul hW hH
  have hK6 : K = 4 ∨ K = 6 := by rcases hok.k with h | h; exact .inl h; exact .inr h.1
  obtain ⟨ab, ao, rfl, _, _⟩ := hZ.cells 0 (by omega)
  have HCR := Lib.hid (cell_rng hok hcl)
  have HK := Lib.hid (fun w2 (h : Below w.heap.size w w2) => check_any K W H (some ⟨ab, ao, none⟩) n c zs w2 (hZ.keep h))
  rw [hf, errV_zero rfl] at HK
  have HZ := Lib.hid (fun w2 (h : Below w.heap.size w w2) => hZ.keep h)
  have HN := Lib.hid hn
  have HOK := Lib.hid hok
  have HW := Lib.hid hW
  have HH := Lib.hid hH
  clear hZ hf hsd hsh hcl hn hok hW hH
  have hK6' : K ≤ 6 := by omega
  have hK4' : 4 ≤ K := by omega
  have HGF := Lib.hid (fun (k d : Nat) (w2 : World) (hk : k < n) (hd : d < K) => next_any K W H k d (some ⟨ab, ao, none⟩) n c w2 HOK.out HW.out HH.out (by rw [← HN.out]; exact hk) hd)
  obtain ⟨F, hF⟩ : ∃ F, F = cN zs := ⟨_, rfl⟩
  rw [← hF] at HCR ⊢
  have HFE := Lib.hid hF
  have HFL : Hid (∀ k, F k < 64) := fun k => pow_lt HOK.out (HCR.out k).2
  have HCV : Hid (∀ k, zs.getD k 0 = ((F k : Nat) : Int)) := fun k => by
    have := (HCR.out k).1
    rw [HFE.out]
    unfold cN
    omega
  clear hK6 hF
  have hkd : (K : Int).tdiv 2 = ((K / 2 : Nat) : Int) := Int.ofNat_tdiv _ _
  obtain ⟨K2, hK2⟩ : ∃ K2, K2 = K / 2 := ⟨_, rfl⟩
  rw [← hK2] at hkd
  have hK23 : K2 ≤ 3 := by omega
  have HK2 := Lib.hid hK2
  clear hK2
  unfold gas at HK HGF ⊢
  go_enter Tryd.func12, Tryd.ntmps12
  go_upto_region 1 with fail
  obtain ⟨hr5, hr8, hb2⟩ := two_new w 24 24 (boxG K W H (some ⟨ab, ao, none⟩) n c) noGas
  have HR5 : Hid (Row ((w.alloc (.cells #[.int .i64 K, .int .i64 W, .int .i64 H, .slice (some ⟨ab, ao, none⟩) n c] 24)).alloc (.cells #[.int .i64 0, .int .i64 0, .int .i64 0, .slice none 0 0] 24)) w.heap.size 24 (boxG K W H (some ⟨ab, ao, none⟩) n c)) := hr5
  have HR8 : Hid (Row ((w.alloc (.cells #[.int .i64 K, .int .i64 W, .int .i64 H, .slice (some ⟨ab, ao, none⟩) n c] 24)).alloc (.cells #[.int .i64 0, .int .i64 0, .int .i64 0, .slice none 0 0] 24)) (w.heap.size + 1) 24 noGas) := hr8
  have HB : Hid (Below w.heap.size w ((w.alloc (.cells #[.int .i64 K, .int .i64 W, .int .i64 H, .slice (some ⟨ab, ao, none⟩) n c] 24)).alloc (.cells #[.int .i64 0, .int .i64 0, .int .i64 0, .slice none 0 0] 24))) := hb2
  clear hr5 hr8 hb2
  generalize (w.alloc (.cells #[.int .i64 K, .int .i64 W, .int .i64 H, .slice (some ⟨ab, ao, none⟩) n c] 24)).alloc (.cells #[.int .i64 0, .int .i64 0, .int .i64 0, .slice none 0 0] 24) = w1 at *
  obtain ⟨gb, hgb⟩ : ∃ gb, gb = w.heap.size := ⟨_, rfl⟩
  rw [← hgb] at HR5 HR8 ⊢
  obtain ⟨rb, hrb⟩ : ∃ rb, rb = gb + 1 := ⟨_, rfl⟩
  rw [← hrb] at HR8 ⊢
  have HGB := Lib.hid hgb
  have HRB := Lib.hid hrb
  clear hgb hrb
  --{check
  have l5 := row_range HR5.out
  go_wp2_with (refine wpList_load_mid rfl 24 _ rfl gb 0 rfl _ _ l5 Tryd.underlying24 rfl infoGas ?_)
  refine (HK.out _ HB.out).mono ?_
  rintro e2 w2 ⟨rfl, hb2⟩
  have HR5 := Lib.hid (HR5.out.keep hb2 HR5.out.lt)
  have HR8 := Lib.hid (HR8.out.keep hb2 HR8.out.lt)
  have HB := Lib.hid (HB.out.trans (hb2.mono HB.out.size))
  clear hb2 l5 HK
  have f3 := HR5.out.cell 3
  unfold boxG at f3
  dsimp only [List.getElem?_cons_succ, List.getElem?_cons_zero] at f3
  obtain ⟨i0, hI0, hz0, hz1, hz2⟩ := info_parts infoInt1
  have hl5 := HR5.out.lt
  have hl8 := HR8.out.lt
  go_upto_region 4 with fail
  go_upto_region 5 with (refine Ops.wpList_make rfl 22 _ _ rfl 3 i0 (.int .i64 0) Tryd.underlying22 hI0 hz0 rfl hz1 (by rw [hz2]; decide) n rfl rfl (by omega) ?_; intro ob w6 hob hb6 hro)
  have HR5 := Lib.hid (HR5.out.keep hb6 HR5.out.lt)
  have HR8 := Lib.hid (HR8.out.keep hb6 HR8.out.lt)
  have HN5 : Hid (gb ≠ ob) := Lib.hid (by omega)
  have HN8 : Hid (rb ≠ ob) := Lib.hid (by omega)
  have HOW : Hid (w.heap.size ≤ ob) := Lib.hid (Nat.le_trans HB.out.size hob)
  have HB := Lib.hid (HB.out.trans (hb6.mono HB.out.size))
  have HU : Hid (Vec w6 ob n (outS K W H (opp K) F 0 0)) := (vec_made hro).congr fun k hk => outS_zero
  clear hob hb6 hro f3 hl5 hl8 hI0 hz0 hz1 hz2
  have f3 := HR5.out.cell 3
  unfold boxG at f3
  dsimp only [List.getElem?_cons_succ, List.getElem?_cons_zero] at f3
  go_wp2_with fail
  clear f3
  --}
  go_loopw [23] (fun v wr => ∃ k, k ≤ n ∧ v = .int .i64 (k : Nat) ∧ Row wr gb 24 (boxG K W H (some ⟨ab, ao, none⟩) n c) ∧ Row wr rb 24 noGas ∧ Vec wr ob n (outS K W H (opp K) F k 0) ∧ Below w.heap.size w wr) (fun v _ => n - (RowKit.intOf v).toNat)
  case atStart => exact ⟨0, Nat.zero_le _, rfl, HR5.out, HR8.out, HU.out, HB.out⟩
  case round =>
    clear HR5 HR8 HU HB
    obtain ⟨k, hk, rfl, hr5, hr8, hu, hb⟩ := hrel
    have HR5 := Lib.hid hr5
    have HR8 := Lib.hid hr8
    have HU := Lib.hid hu
    have HB := Lib.hid hb
    clear hr5 hr8 hu hb
    by_cases hkn : k < n
    · --{cell
      have hk2 : (k : Int) < (n : Int) := by omega
      have HKN := Lib.hid hkn
      obtain ⟨ab', ao', habe, _, cg⟩ := (HZ.out wr HB.out).cells k hkn
      cases habe
      dsimp only at cg
      rw [HCV.out k] at cg
      obtain ⟨mv, hmv⟩ : ∃ mv, mv = F k := ⟨_, rfl⟩
      rw [← hmv] at cg
      have hm64 : mv < 64 := by rw [hmv]; exact HFL.out k
      have HMV := Lib.hid hmv
      have HM64 := Lib.hid hm64
      clear hmv hm64 hkn
      have f0 := HR5.out.cell 0
      unfold boxG at f0
      dsimp only [List.getElem?_cons_succ, List.getElem?_cons_zero] at f0
      go_wp2_with fail
      clear f0 cg
      go_loopw [30] (fun v wr => ∃ d, d ≤ K ∧ v = .int .i64 (d : Nat) ∧ Row wr gb 24 (boxG K W H (some ⟨ab, ao, none⟩) n c) ∧ Row wr rb 24 noGas ∧ Vec wr ob n (outS K W H (opp K) F k d) ∧ Below w.heap.size w wr) (fun v _ => K - (RowKit.intOf v).toNat)
      case atStart => exact ⟨0, Nat.zero_le _, rfl, HR5.out, HR8.out, HU.out, HB.out⟩
      case round =>
        clear HR5 HR8 HU HB
        obtain ⟨d, hd, rfl, hr5, hr8, hu, hb⟩ := hrel
        have HR5 := Lib.hid hr5
        have HR8 := Lib.hid hr8
        have HU := Lib.hid hu
        have HB := Lib.hid hb
        clear hr5 hr8 hu hb
        by_cases hdk : d < K
        · --{bit
          have hd2 : (d : Int) < (K : Int) := by omega
          have hd6 : d < 6 := by omega
          have q1 := and_fin d hd6 mv HM64.out
          have HDK := Lib.hid hdk
          have HKW : Hid (k < W * H) := Lib.hid (by rw [← HN.out]; exact HKN.out)
          have HORD := Lib.hid (ord_opp HOK.out)
          by_cases hbit : bit mv d = 1
          · rw [hbit] at q1
            obtain ⟨o, hoe⟩ : ∃ o, o = opp K d := ⟨_, rfl⟩
            have hom : ((d : Int) + (K2 : Int)).tmod (K : Int) = (o : Int) := by
              rw [hoe, HK2.out, show ((d : Int) + ((K / 2 : Nat) : Int)) = ((d + K / 2 : Nat) : Int) by push_cast; rfl]
              exact Int.ofNat_tmod _ _
            have hoK : o < K := by rw [hoe]; exact opp_lt HOK.out hdk
            have ho6 : o < 6 := by omega
            obtain ⟨j, hj⟩ : ∃ j, j = nxt K W H k o := ⟨_, rfl⟩
            have hjn : j < n := by rw [hj, HN.out]; exact nxt_lt HOK.out
            obtain ⟨y, hy⟩ : ∃ y, y = outS K W H (opp K) F k d j := ⟨_, rfl⟩
            have hy64 : y < 64 := by rw [hy]; exact pow_lt HOK.out outS_lt
            have hyb : bit y o = 0 := by rw [hy, hj, hoe]; exact outS_free (r := opp K) HOK.out HORD.out HKW.out hdk
            have q2 := or_fin o ho6 y hy64 hyb
            have q3 := pow_fin o ho6
            have q4 := pow_fin2 o ho6
            have HNX := Lib.hid (fun w2 => HGF.out k o w2 HKN.out hoK)
            rw [← hj] at HNX
            have HY : Hid (∀ k', k' < n → k' ≠ j → outS K W H (opp K) F k (d + 1) k' = outS K W H (opp K) F k d k') := fun k' hk' hne => outS_else (r := opp K) HOK.out HORD.out HKW.out (by rw [← HN.out]; exact hk') hdk (fun e => hne (by rw [e, hj, hoe]))
            have HY2 : Hid (outS K W H (opp K) F k (d + 1) j = y + 2 ^ o) := by
              show _ = _
              rw [hy, hj, hoe]
              exact outS_hit (r := opp K) HOK.out HORD.out HKW.out hdk (by rw [← HMV.out]; exact hbit)
            have hj2 : (j : Int) < (n : Int) := by omega
            have HJN := Lib.hid hjn
            have HYE := Lib.hid hy
            obtain ⟨yy, hyy⟩ : ∃ yy, yy = y + 2 ^ o := ⟨_, rfl⟩
            rw [← hyy] at q2 HY2
            have hK0 : ¬ (K : Int) = 0 := by omega
            have hK0b : ((K : Int) == 0) = false := beq_eq_false_iff_ne.2 hK0
            have hKm : ¬ (K : Int) = -1 := by omega
            have f0 := HR5.out.cell 0
            have f1 := HR5.out.cell 1
            have f2 := HR5.out.cell 2
            have f3 := HR5.out.cell 3
            unfold boxG at f0 f1 f2 f3
            dsimp only [List.getElem?_cons_succ, List.getElem?_cons_zero] at f0 f1 f2 f3
            clear hbit hj hjn hy hy64 hyb hyy hdk HGF hoe
            go_upto_region 13 with fail
            have hdr : Below wr.heap.size wr wr.drew := (Below.refl _ _).drew
            have HNX := Lib.hid (HNX.out wr.drew)
            go_region_with (
              (go_at_call 22
               refine HNX.out.mono ?_
               rintro e8 w8 ⟨rfl, hb8⟩
               have cy := ((HU.out.keep hdr).keep hb8).cell HJN.out
               have zy := ((HU.out.keep hdr).keep hb8).frozen j
               rw [← HYE.out] at cy))
            all_goals
              (try rw [q4])
              (try rw [q2])
              have HO9 := Lib.hid (only_setCell w8 ob j (.int .i64 (yy : Nat)))
              have HU9 := Lib.hid (((HU.out.keep hdr).keep hb8).set HJN.out HY.out HY2.out)
              have HR59 := Lib.hid (((HR5.out.keep hdr HR5.out.lt).keep hb8 (HR5.out.keep hdr HR5.out.lt).lt).other HO9.out HN5.out)
              have HR89 := Lib.hid (((HR8.out.keep hdr HR8.out.lt).keep hb8 (HR8.out.keep hdr HR8.out.lt).lt).other HO9.out HN8.out)
              have HB9 := Lib.hid ((HB.out.trans ((hdr.trans (hb8.mono hdr.size)).mono HB.out.size)).trans (HO9.out.below HOW.out))
              clear HU HR5 HR8 HB hb8 hdr HNX HO9 cy zy f0 f1 f2 f3
              generalize w8.setCell ⟨ob, j, none⟩ (.int .i64 (yy : Nat)) = w9 at *
              go_wp2_with fail
              go_roundw
              case rel => exact ⟨d + 1, HDK.out, by go_num, HR59.out, HR89.out, HU9.out, HB9.out⟩
              case measure => have := HDK.out; simp [RowKit.intOf]; omega
          · have hb0 : bit mv d = 0 := by have := bit_le mv d; omega
            rw [hb0] at q1
            have HUN : Hid (Vec wr ob n (outS K W H (opp K) F k (d + 1))) := HU.out.congr fun k' hk' => outS_skip (r := opp K) HOK.out HORD.out HKW.out hdk (by rw [← HMV.out]; exact hb0) (by rw [← HN.out]; exact hk')
            clear hbit hb0 HU
            go_wp2_with fail
            go_roundw
            case rel => exact ⟨d + 1, HDK.out, by go_num, HR5.out, HR8.out, HUN.out, HB.out⟩
            case measure => have := HDK.out; simp [RowKit.intOf]; omega
          --}
        · have hdK : d = K := by omega
          have hnl : ¬ (d : Int) < (K : Int) := by omega
          have HUN : Hid (Vec wr ob n (outS K W H (opp K) F (k + 1) 0)) := HU.out.congr fun k' hk' => by
            rw [hdK]
            exact (outS_cell (ord_opp HOK.out)).symm
          clear HU hdK hdk
          go_wp2_with fail
          go_roundw
          case rel => exact ⟨k + 1, HKN.out, by go_num, HR5.out, HR8.out, HUN.out, HB.out⟩
          case measure => have := HKN.out; simp [RowKit.intOf]; omega
      --}
    · --{cdone
      obtain rfl : k = n := by omega
      have HUN : Hid (Vec wr ob k (trn K W H F)) := HU.out.congr fun k' hk' => by
        have := outS_all (r := opp K) (f := F) (j := k') HOK.out
        rw [← HN.out] at this
        exact this.symm
      have hnl : ¬ (k : Int) < (k : Int) := by omega
      have f3 := HR5.out.cell 3
      have z3 := HR5.out.frozen 3
      unfold boxG at f3
      dsimp only [List.getElem?_cons_succ, List.getElem?_cons_zero] at f3
      have hr5 : Row (wr.setCell ⟨gb, 3, none⟩ (.slice (some ⟨ob, 0, none⟩) k k)) gb 24 (boxG K W H (some ⟨ob, 0, none⟩) k k) := HR5.out.set 3 (.slice (some ⟨ob, 0, none⟩) k k)
      have HO := Lib.hid (only_setCell wr gb 3 (.slice (some ⟨ob, 0, none⟩) k k))
      have hr8 := HR8.out.other HO.out (by have := HRB.out; omega)
      have hun := HUN.out.other HO.out (fun e => HN5.out e.symm)
      have hbn := HB.out.trans (HO.out.below (by have := HGB.out; omega))
      have HR5 := Lib.hid hr5
      have HR8 := Lib.hid hr8
      have HUN := Lib.hid hun
      have HB := Lib.hid hbn
      clear hr5 hr8 hun hbn HO HU
      go_upto_region 17 with fail
      clear f3 z3
      generalize wr.setCell ⟨gb, 3, none⟩ (.slice (some ⟨ob, 0, none⟩) k k) = w9 at *
      have l5 := row_range HR5.out
      go_wp2_with (first | (refine wpList_load_mid rfl 24 _ rfl gb 0 rfl _ _ l5 Tryd.underlying24 rfl infoGas ?_) | (refine Ops.wpList_store_arr rfl 24 _ _ rfl rb rfl 24 _ _ rfl HR8.out rfl infoGas (boxG_one _ _ _ _ _ _) ?_; intro w5 hrow5 hon5))
      refine bodyPost_ret (results_gas (t := 2) (u := 3) (e := .nilIface) rfl _ _ hrow5 rfl rfl rfl) rfl ⟨⟨ob, ⟨k, rfl⟩, HOW.out, HUN.out.other hon5 (fun e => HN8.out e.symm)⟩, HB.out.trans (hon5.below (by have := HGB.out; have := HRB.out; omega))⟩
      --}
end Gs
end Go.Proofs.YtekoldebcihdoaaDoor
