/- WALK: edenref4.Turned. -/
import Derived.Test.YtekoldebcihdoaaDoorGsF
import Derived.Deep.RegionWith
namespace Go.Proofs.YtekoldebcihdoaaDoor
set_option linter.unusedSimpArgs false
set_option linter.unusedVariables false
open Go.RowKit
namespace Gs
open Tld Mem

/-- A function whose one result is a gas in a cell. -/
theorem results_gas1 {fn : Func} {t : Tmp} (hr : fn.results = #[.cell t 24]) (tmps : Array Value) (w : World) {q : Nat} {V : List Value} (h : Row w q 24 V) (hV : V.length = 4) (h8 : tmps.getD t undef = .pointer (some ⟨q, 0, none⟩)) :
    (results fn tmps).run Tryd.prog w = .ok (.agg V.toArray) w := by
  have hl := run_loadVar_row (P := Tryd.prog) w q 24 24 V.toArray (0, 0) _ h Tryd.underlying24 rfl (by rw [List.size_toArray, hV]; exact infoGas)
  have h8' : tmps[t]?.getD undef = .pointer (some ⟨q, 0, none⟩) := by simpa using h8
  simp [results, hr, h8', asAddr, hl]
theorem Vec.drew {w : World} {b P : Nat} {F : Nat → Nat} (h : Vec w b P F) : Vec w.drew b P F := by
  obtain ⟨cs, hr, hc⟩ := h.row
  exact ⟨⟨cs, hr.drew, hc⟩⟩
theorem bit_step (m d : Nat) : m / 2 ^ d / 2 = m / 2 ^ (d + 1) := by rw [Nat.div_div_eq_div_mul, Nat.pow_succ]
theorem bit_def (m d : Nat) : m / 2 ^ d % 2 = bit m d := rfl

set_option maxHeartbeats 16000000 in
set_option maxRecDepth 1000000 in
theorem Turned_ref (K W H : Nat) (a : Option Addr) (n c : Nat) (zs : List Int) (w : World) (hZ : Ints.Is w a n zs) (hf : gfault K W H zs = 0) :
    Calls Tryd.prog 15 #[gas K W H a n c] w fun e w' => (∃ g c', e = .returned (gas K W H (some ⟨g, 0, none⟩) n c') ∧ w.heap.size ≤ g ∧ Vec w' g n (trn K W H (cN zs))) ∧ Below w.heap.size w w' := by
  obtain ⟨hsd, hsh, hcl⟩ := gfault_zero hf
  rw [hZ.len] at hsh
  obtain ⟨hok, hn, hW, hH⟩ := ok_of hsd hsh
  have hn1 : 1 ≤ n := by rw [hn]; exact Nat.mul_pos hok.w hok.h
  have hn2 : n ≤ 10000 := by rw [hn]; exact Nat.mul_le_mul hW hH
  have hK6 : K = 4 ∨ K = 6 := by rcases hok.k with h | h; exact .inl h; exact .inr h.1
  obtain ⟨ab, ao, rfl, _, _⟩ := hZ.cells 0 (by omega)
  have HCR := Lib.hid (cell_rng hok hcl)
  have HZ := Lib.hid (fun w2 (h : Below w.heap.size w w2) => hZ.keep h)
  have HN := Lib.hid hn
  have HOK := Lib.hid hok
  have HW := Lib.hid hW
  have HH := Lib.hid hH
  clear hZ hf hsd hsh hcl hn hok hW hH
  have hK6' : K ≤ 6 := by omega
  have hK4' : 4 ≤ K := by omega
  have HGF := Lib.hid (fun (k d : Nat) (w2 : World) (hk : k < n) (hd : d < K) => Next_any K W H k d (some ⟨ab, ao, none⟩) n c w2 HOK.out HW.out HH.out (by rw [← HN.out]; exact hk) hd)
  obtain ⟨F, hF⟩ : ∃ F, F = cN zs := ⟨_, rfl⟩
  rw [← hF] at HCR ⊢
  have HFE := Lib.hid hF
  have HFL : Hid (∀ k, F k < 64) := fun k => pow_lt HOK.out (HCR.out k).2
  have HCV : Hid (∀ k, zs.getD k 0 = ((F k : Nat) : Int)) := fun k => by
    have := (HCR.out k).1
    rw [HFE.out]
    unfold cN
    omega
  clear hK6 hF
  have hkd : (K : Int).tdiv 2 = ((K / 2 : Nat) : Int) := Int.ofNat_tdiv _ _
  obtain ⟨K2, hK2⟩ : ∃ K2, K2 = K / 2 := ⟨_, rfl⟩
  rw [← hK2] at hkd
  have hK23 : K2 ≤ 3 := by omega
  have HK2 := Lib.hid hK2
  clear hK2
  unfold gas at HGF ⊢
  go_enter Tryd.func15, Tryd.ntmps15
  go_upto_region 1 with fail
  obtain ⟨hr5, hr8, hb2⟩ := two_new w 24 24 (boxG K W H (some ⟨ab, ao, none⟩) n c) noGas
  have HR5 : Hid (Row ((w.alloc (.cells #[.int .i64 K, .int .i64 W, .int .i64 H, .slice (some ⟨ab, ao, none⟩) n c] 24)).alloc (.cells #[.int .i64 0, .int .i64 0, .int .i64 0, .slice none 0 0] 24)) w.heap.size 24 (boxG K W H (some ⟨ab, ao, none⟩) n c)) := hr5
  have HR8 : Hid (Row ((w.alloc (.cells #[.int .i64 K, .int .i64 W, .int .i64 H, .slice (some ⟨ab, ao, none⟩) n c] 24)).alloc (.cells #[.int .i64 0, .int .i64 0, .int .i64 0, .slice none 0 0] 24)) (w.heap.size + 1) 24 noGas) := hr8
  have HB : Hid (Below w.heap.size w ((w.alloc (.cells #[.int .i64 K, .int .i64 W, .int .i64 H, .slice (some ⟨ab, ao, none⟩) n c] 24)).alloc (.cells #[.int .i64 0, .int .i64 0, .int .i64 0, .slice none 0 0] 24))) := hb2
  clear hr5 hr8 hb2
  generalize (w.alloc (.cells #[.int .i64 K, .int .i64 W, .int .i64 H, .slice (some ⟨ab, ao, none⟩) n c] 24)).alloc (.cells #[.int .i64 0, .int .i64 0, .int .i64 0, .slice none 0 0] 24) = w1 at *
  obtain ⟨gb, hgb⟩ : ∃ gb, gb = w.heap.size := ⟨_, rfl⟩
  rw [← hgb] at HR5 HR8 ⊢
  obtain ⟨rb, hrb⟩ : ∃ rb, rb = gb + 1 := ⟨_, rfl⟩
  rw [← hrb] at HR8 ⊢
  have HGB := Lib.hid hgb
  have HRB := Lib.hid hrb
  clear hgb hrb
  --{boxes
  have f0 := HR5.out.cell 0
  have f1 := HR5.out.cell 1
  have f2 := HR5.out.cell 2
  unfold boxG at f0 f1 f2
  dsimp only [List.getElem?_cons_succ, List.getElem?_cons_zero] at f0 f1 f2
  go_upto_region 2 with fail
  clear f0 f1 f2
  have hrt : Row (w1.alloc (.cells #[.int .i64 K, .int .i64 W, .int .i64 H, .slice none 0 0] 24)) w1.heap.size 24 (boxG K W H none 0 0) := row_alloc w1 _ _
  have hbt : Below w1.heap.size w1 (w1.alloc (.cells #[.int .i64 K, .int .i64 W, .int .i64 H, .slice none 0 0] 24)) := (Below.refl _ _).alloc (Nat.le_refl _) _
  have hl5 := HR5.out.lt
  have hl8 := HR8.out.lt
  have HR5 := Lib.hid (HR5.out.keep hbt HR5.out.lt)
  have HR8 := Lib.hid (HR8.out.keep hbt HR8.out.lt)
  have HTW : Hid (w.heap.size ≤ w1.heap.size) := Lib.hid HB.out.size
  have HB := Lib.hid (HB.out.trans (hbt.mono HB.out.size))
  have HT := Lib.hid hrt
  clear hbt hrt
  generalize w1.alloc (.cells #[.int .i64 K, .int .i64 W, .int .i64 H, .slice none 0 0] 24) = w2 at *
  obtain ⟨tb, htb⟩ : ∃ tb, tb = w1.heap.size := ⟨_, rfl⟩
  rw [← htb] at HT HTW hl5 hl8 ⊢
  have HTN5 : Hid (gb ≠ tb) := Lib.hid (by omega)
  have HTN8 : Hid (rb ≠ tb) := Lib.hid (by omega)
  clear htb hl5 hl8
  have f3 := HR5.out.cell 3
  unfold boxG at f3
  dsimp only [List.getElem?_cons_succ, List.getElem?_cons_zero] at f3
  obtain ⟨i0, hI0, hz0, hz1, hz2⟩ := info_parts infoInt1
  have hl5 := HR5.out.lt
  have hl8 := HR8.out.lt
  have hlt := HT.out.lt
  have g3 := HT.out.cell 3
  have z3 := HT.out.frozen 3
  unfold boxG at g3
  dsimp only [List.getElem?_cons_succ, List.getElem?_cons_zero] at g3
  go_upto_region 3 with (refine Ops.wpList_make rfl 22 _ _ rfl 3 i0 (.int .i64 0) Tryd.underlying22 hI0 hz0 rfl hz1 (by rw [hz2]; decide) n rfl rfl (by omega) ?_; intro ob w6 hob hb6 hro; (have g3 := (HT.out.keep hb6 HT.out.lt).cell 3); (have z3 := (HT.out.keep hb6 HT.out.lt).frozen 3); unfold boxG at g3; dsimp only [List.getElem?_cons_succ, List.getElem?_cons_zero] at g3)
  have hnt : tb ≠ ob := by omega
  have hr5 := HR5.out.keep hb6 HR5.out.lt
  have hr8 := HR8.out.keep hb6 HR8.out.lt
  have ht := HT.out.keep hb6 HT.out.lt
  have HN5 : Hid (gb ≠ ob) := Lib.hid (by omega)
  have HN8 : Hid (rb ≠ ob) := Lib.hid (by omega)
  have HNT : Hid (tb ≠ ob) := Lib.hid hnt
  have HOW : Hid (w.heap.size ≤ ob) := Lib.hid (Nat.le_trans HB.out.size hob)
  have hb := HB.out.trans (hb6.mono HB.out.size)
  have hu : Vec w6 ob n (outS K W H (opp K) F 0 0) := (vec_made hro).congr fun k hk => outS_zero
  have HO := Lib.hid (only_setCell w6 tb 3 (.slice (some ⟨ob, 0, none⟩) n n))
  have HR5 := Lib.hid (hr5.other HO.out HTN5.out)
  have HR8 := Lib.hid (hr8.other HO.out HTN8.out)
  have HT : Hid (Row (w6.setCell ⟨tb, 3, none⟩ (.slice (some ⟨ob, 0, none⟩) n n)) tb 24 (boxG K W H (some ⟨ob, 0, none⟩) n n)) := ht.set 3 (.slice (some ⟨ob, 0, none⟩) n n)
  have HU := Lib.hid (hu.other HO.out (fun e => HNT.out e.symm))
  have HB := Lib.hid (hb.trans (HO.out.below HTW.out))
  clear hob hb6 hro f3 hl5 hl8 hI0 hz0 hz1 hz2 hr5 hr8 ht hb hu hnt HO g3 z3 hlt
  generalize w6.setCell ⟨tb, 3, none⟩ (.slice (some ⟨ob, 0, none⟩) n n) = w7 at *
  go_wp2_with fail
  --}
  go_loopw [4] (fun v wr => ∃ k, k ≤ n ∧ v = .int .i64 (k : Nat) ∧ Row wr gb 24 (boxG K W H (some ⟨ab, ao, none⟩) n c) ∧ Row wr rb 24 noGas ∧ Row wr tb 24 (boxG K W H (some ⟨ob, 0, none⟩) n n) ∧ Vec wr ob n (outS K W H (opp K) F k 0) ∧ Below w.heap.size w wr) (fun v _ => n - (RowKit.intOf v).toNat)
  case atStart => exact ⟨0, Nat.zero_le _, rfl, HR5.out, HR8.out, HT.out, HU.out, HB.out⟩
  case round =>
    clear HR5 HR8 HT HU HB
    obtain ⟨k, hk, rfl, hr5, hr8, ht, hu, hb⟩ := hrel
    have HR5 := Lib.hid hr5
    have HR8 := Lib.hid hr8
    have HT := Lib.hid ht
    have HU := Lib.hid hu
    have HB := Lib.hid hb
    clear hr5 hr8 ht hu hb
    by_cases hkn : k < n
    · --{cell
      have hk2 : (k : Int) < (n : Int) := by omega
      have HKN := Lib.hid hkn
      obtain ⟨ab', ao', habe, _, cg⟩ := (HZ.out wr HB.out).cells k hkn
      cases habe
      dsimp only at cg
      rw [HCV.out k] at cg
      obtain ⟨mv, hmv⟩ : ∃ mv, mv = F k := ⟨_, rfl⟩
      rw [← hmv] at cg
      have hm64 : mv < 64 := by rw [hmv]; exact HFL.out k
      have HMV := Lib.hid hmv
      clear hmv hkn
      have f0 := HR5.out.cell 0
      have f3 := HR5.out.cell 3
      unfold boxG at f0 f3
      dsimp only [List.getElem?_cons_succ, List.getElem?_cons_zero] at f0 f3
      go_wp2_with fail
      clear f0 f3 cg
      go_loopw [5, 6] (fun u v wr => ∃ d q, d ≤ K ∧ v = .int .i64 (d : Nat) ∧ u = .int .i64 (q : Nat) ∧ q = mv / 2 ^ d ∧ q < 64 ∧ Row wr gb 24 (boxG K W H (some ⟨ab, ao, none⟩) n c) ∧ Row wr rb 24 noGas ∧ Row wr tb 24 (boxG K W H (some ⟨ob, 0, none⟩) n n) ∧ Vec wr ob n (outS K W H (opp K) F k d) ∧ Below w.heap.size w wr) (fun _ v _ => K - (RowKit.intOf v).toNat)
      case atStart => exact ⟨0, mv, Nat.zero_le _, rfl, rfl, by simp, hm64, HR5.out, HR8.out, HT.out, HU.out, HB.out⟩
      case round =>
        clear HR5 HR8 HT HU HB
        obtain ⟨d, q, hd, rfl, rfl, hq, hq64, hr5, hr8, ht, hu, hb⟩ := hrel
        have HR5 := Lib.hid hr5
        have HR8 := Lib.hid hr8
        have HT := Lib.hid ht
        have HU := Lib.hid hu
        have HB := Lib.hid hb
        have HQE := Lib.hid hq
        clear hr5 hr8 ht hu hb
        have f0 := HR5.out.cell 0
        unfold boxG at f0
        dsimp only [List.getElem?_cons_succ, List.getElem?_cons_zero] at f0
        by_cases hdk : d < K
        · --{bit
          have hd2 : (d : Int) < (K : Int) := by omega
          have HDK := Lib.hid hdk
          have HKW : Hid (k < W * H) := Lib.hid (by rw [← HN.out]; exact HKN.out)
          have HORD := Lib.hid (ord_opp HOK.out)
          have hqm : (q : Int).tmod 2 = ((q % 2 : Nat) : Int) := Int.ofNat_tmod _ _
          have hqd : (q : Int).tdiv 2 = ((q / 2 : Nat) : Int) := Int.ofNat_tdiv _ _
          have hqb : q % 2 = bit mv d := by rw [hq]; rfl
          obtain ⟨s, hs⟩ : ∃ s, s = q / 2 := ⟨_, rfl⟩
          rw [← hs] at hqd
          have HS : Hid (s = mv / 2 ^ (d + 1) ∧ s < 64) := ⟨by rw [hs, hq, bit_step], by omega⟩
          rw [hqb] at hqm
          clear hs hq
          by_cases hbit : bit mv d = 1
          · rw [hbit] at hqm
            obtain ⟨o, hoe⟩ : ∃ o, o = opp K d := ⟨_, rfl⟩
            have hom : ((d : Int) + (K2 : Int)).tmod (K : Int) = (o : Int) := by
              rw [hoe, HK2.out, show ((d : Int) + ((K / 2 : Nat) : Int)) = ((d + K / 2 : Nat) : Int) by push_cast; rfl]
              exact Int.ofNat_tmod _ _
            have hoK : o < K := by rw [hoe]; exact opp_lt HOK.out hdk
            obtain ⟨j, hj⟩ : ∃ j, j = nxt K W H k o := ⟨_, rfl⟩
            have hjn : j < n := by rw [hj, HN.out]; exact nxt_lt HOK.out
            obtain ⟨y, hy⟩ : ∃ y, y = outS K W H (opp K) F k d j := ⟨_, rfl⟩
            have hy64 : y < 64 := by rw [hy]; exact pow_lt HOK.out outS_lt
            have HNX := Lib.hid (fun w2 => HGF.out k o w2 HKN.out hoK)
            rw [← hj] at HNX
            have HY : Hid (∀ k', k' < n → k' ≠ j → outS K W H (opp K) F k (d + 1) k' = outS K W H (opp K) F k d k') := fun k' hk' hne => outS_else (r := opp K) HOK.out HORD.out HKW.out (by rw [← HN.out]; exact hk') hdk (fun e => hne (by rw [e, hj, hoe]))
            have HY2 : Hid (outS K W H (opp K) F k (d + 1) j = y + 2 ^ o) := by
              show _ = _
              rw [hy, hj, hoe]
              exact outS_hit (r := opp K) HOK.out HORD.out HKW.out hdk (by rw [← HMV.out]; exact hbit)
            have hpl := pow_le6 (i := o) (by omega)
            have HPW := Lib.hid (fun w2 => power_any o w2 (by omega))
            generalize 2 ^ o = pw at *
            have hj2 : (j : Int) < (n : Int) := by omega
            have HJN := Lib.hid hjn
            have HYE := Lib.hid hy
            have hK0 : ¬ (K : Int) = 0 := by omega
            have hK0b : ((K : Int) == 0) = false := beq_eq_false_iff_ne.2 hK0
            have hKm : ¬ (K : Int) = -1 := by omega
            have l5 := row_range HR5.out
            clear hbit hj hjn hy hdk HGF hoe hqb
            go_wp2_with (refine wpList_load_mid rfl 24 _ rfl gb 0 rfl _ _ l5 Tryd.underlying24 rfl infoGas ?_)
            refine (HNX.out wr).mono ?_
            rintro e7 w7 ⟨rfl, hb7⟩
            have HR5 := Lib.hid (HR5.out.keep hb7 HR5.out.lt)
            have HR8 := Lib.hid (HR8.out.keep hb7 HR8.out.lt)
            have HT := Lib.hid (HT.out.keep hb7 HT.out.lt)
            have HU := Lib.hid (HU.out.keep hb7)
            have HB := Lib.hid (HB.out.trans (hb7.mono HB.out.size))
            clear hb7 l5 f0 HNX
            go_upto_region 13 with fail
            have g3 := HT.out.cell 3
            unfold boxG at g3
            dsimp only [List.getElem?_cons_succ, List.getElem?_cons_zero] at g3
            have cy := HU.out.cell HJN.out
            have zy := HU.out.frozen j
            rw [← HYE.out] at cy
            obtain ⟨yy, hyy⟩ : ∃ yy, yy = y + pw := ⟨_, rfl⟩
            have u1 : IntKind.i64.wrap ((y : Int) + (pw : Int)) = ((yy : Nat) : Int) := by rw [IntKind.wrap_i64, hyy]; omega
            rw [← hyy] at HY2
            have ho9 := only_setCell w7 ob j (.int .i64 (yy : Nat))
            have HU9 := Lib.hid (HU.out.set HJN.out HY.out HY2.out).drew
            have HR59 := Lib.hid (HR5.out.other ho9 HN5.out).drew
            have HR89 := Lib.hid (HR8.out.other ho9 HN8.out).drew
            have HT9 := Lib.hid (HT.out.other ho9 HNT.out).drew
            have HB9 := Lib.hid ((HB.out.trans (ho9.below HOW.out)).trans (Below.refl _ _).drew)
            clear ho9 hyy hy64 hpl HU HR5 HR8 HT HB
            go_cut [] (fun wx => wx = (w7.setCell ⟨ob, j, none⟩ (.int .i64 (yy : Nat))).drew)
            case first =>
              go_region_with (
                (go_at_call 25
                 refine (HPW.out _).mono ?_
                 rintro e8 w8 ⟨rfl, hw8⟩
                 rw [hw8]))
              all_goals
                go_wp2_with fail
                go_meet
                case rel => rfl
            case rest =>
            subst hcut
            clear g3 cy zy u1 HPW
            generalize (w7.setCell ⟨ob, j, none⟩ (.int .i64 (yy : Nat))).drew = w9 at *
            go_wp2_with fail
            go_roundw
            case rel => exact ⟨d + 1, s, HDK.out, by go_num, congrArg (Value.int .i64) (by have := HS.out.2; unfold wrap64; omega), HS.out.1, HS.out.2, HR59.out, HR89.out, HT9.out, HU9.out, HB9.out⟩
            case measure => have := HDK.out; simp [RowKit.intOf]; omega
          · have hb0 : bit mv d = 0 := by have := bit_le mv d; omega
            rw [hb0] at hqm
            have HUN : Hid (Vec wr ob n (outS K W H (opp K) F k (d + 1))) := HU.out.congr fun k' hk' => outS_skip (r := opp K) HOK.out HORD.out HKW.out hdk (by rw [← HMV.out]; exact hb0) (by rw [← HN.out]; exact hk')
            clear hbit hb0 HU hqb
            go_wp2_with fail
            go_roundw
            case rel => exact ⟨d + 1, s, HDK.out, by go_num, congrArg (Value.int .i64) (by have := HS.out.2; unfold wrap64; omega), HS.out.1, HS.out.2, HR5.out, HR8.out, HT.out, HUN.out, HB.out⟩
            case measure => have := HDK.out; simp [RowKit.intOf]; omega
          --}
        · have hdK : d = K := by omega
          have hnl : ¬ (d : Int) < (K : Int) := by omega
          have HUN : Hid (Vec wr ob n (outS K W H (opp K) F (k + 1) 0)) := HU.out.congr fun k' hk' => by
            rw [hdK]
            exact (outS_cell (ord_opp HOK.out)).symm
          clear HU hdK hdk hq
          go_wp2_with fail
          go_roundw
          case rel => exact ⟨k + 1, HKN.out, by go_num, HR5.out, HR8.out, HT.out, HUN.out, HB.out⟩
          case measure => have := HKN.out; simp [RowKit.intOf]; omega
      --}
    · --{cdone
      obtain rfl : k = n := by omega
      have HUN : Hid (Vec wr ob k (trn K W H F)) := HU.out.congr fun k' hk' => by
        have := outS_all (r := opp K) (f := F) (j := k') HOK.out
        rw [← HN.out] at this
        exact this.symm
      have hnl : ¬ (k : Int) < (k : Int) := by omega
      have f3 := HR5.out.cell 3
      unfold boxG at f3
      dsimp only [List.getElem?_cons_succ, List.getElem?_cons_zero] at f3
      have l5 := row_range HT.out
      go_wp2_with (first | (refine wpList_load_mid rfl 24 _ rfl tb 0 rfl _ _ l5 Tryd.underlying24 rfl infoGas ?_) | (refine Ops.wpList_store_arr rfl 24 _ _ rfl rb rfl 24 _ _ rfl HR8.out rfl infoGas (boxG_one _ _ _ _ _ _) ?_; intro w5 hrow5 hon5))
      refine bodyPost_ret (results_gas1 (t := 2) rfl _ _ hrow5 rfl rfl) rfl ⟨⟨ob, ⟨k, rfl⟩, HOW.out, HUN.out.other hon5 (fun e => HN8.out e.symm)⟩, HB.out.trans (hon5.below (by have := HGB.out; have := HRB.out; omega))⟩
      --}
end Gs
end Go.Proofs.YtekoldebcihdoaaDoor
