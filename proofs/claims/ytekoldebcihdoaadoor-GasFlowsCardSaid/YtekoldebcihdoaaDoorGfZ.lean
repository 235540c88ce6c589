/- THE LAW GasFlows: nothing is at fault. -/
import Derived.Test.YtekoldebcihdoaaDoorGfB
import Derived.Test.YtekoldebcihdoaaDoorGsJ
namespace Go.Proofs.YtekoldebcihdoaaDoor
set_option linter.unusedSimpArgs false
set_option linter.unusedVariables false
open Go.RowKit
namespace Gs
open Tld Mem
set_option maxHeartbeats 16000000 in
set_option maxRecDepth 1000000 in
theorem gasFlows_z (K W H : Nat) (a : Option Addr) (n c : Nat) (zs : List Int) (ca : Option Addr) (cn cc : Nat) (cs : List Int) (m : Nat) (w : World) (hZ : Ints.Is w a n zs) (hC : Ints.Is w ca cn cs) (hL : Tld.Laid w) (hg : gfault K W H zs = 0) (hf : rfault K W H zs cs m = 0) :
    Calls Tryd.prog 3 #[gas K W H a n c, .slice ca cn cc, .int .i64 m] w fun e w' => e = .returned (.bool true) ∧ Below w.heap.size w w' := by
  obtain ⟨_, _, hm1, hcb, hsix⟩ := rfault_zero hf
  obtain ⟨hsd, hsh, _⟩ := gfault_zero hg
  have hn1 : 1 ≤ n := by
    rw [hZ.len] at hsh
    obtain ⟨hok, hn, _, _⟩ := ok_of hsd hsh
    rw [hn]; exact Nat.mul_pos hok.w hok.h
  have HAB : Hid (∀ b o', a = some ⟨b, o', none⟩ → b < w.heap.size) := Lib.hid (fun b o' h => by
    obtain ⟨b2, o2, e2, l2, _⟩ := hZ.cells 0 hn1
    rw [h] at e2
    cases e2
    exact l2)
  clear hsd hsh hn1
  have HZ : Hid (∀ w2, Below w.heap.size w w2 → Ints.Is w2 a n zs) := Lib.hid (fun w2 h => hZ.keep h)
  have HC : Hid (∀ w2, Below w.heap.size w w2 → Ints.Is w2 ca cn cs) := Lib.hid (fun w2 h => hC.keep h)
  have HCN := Lib.hid hC.len
  have HCL := hC.le
  unfold maxLen at HCL
  have HL := Lib.hid hL
  have TE : Hid (∀ w2 v k, Below w.heap.size w w2 → v = errV k → 0 ≤ k ∧ k ≤ 3 → Calls Tryd.prog 6 #[v, .int .i64 k] w2 fun e w' => e = .returned (.bool true) ∧ Below w2.heap.size w2 w') := Lib.hid (fun w2 v k h hv hk => by
    have := same_any k k w2 (HL.out.keep h) (by omega) (by omega)
    rw [beq_self_eq_true] at this
    rw [hv]
    exact this)
  have GZ : Hid (∀ w2, Calls Tryd.prog 9 #[.agg #[.int .i64 0, .int .i64 0, .int .i64 0, .slice none 0 0], .agg #[.int .i64 0, .int .i64 0, .int .i64 0, .slice none 0 0]] w2 fun e w' => e = .returned (.bool true) ∧ Below w2.heap.size w2 w') := Lib.hid (fun w2 => gases_any 0 0 0 none none 0 0 0 [] w2 (Ints.Is.nil _) (Ints.Is.nil _))
  have HGF := Lib.hid hg
  have hnm : n ≤ maxLen := hZ.le
  have HNM := Lib.hid hnm
  have K0 := Lib.hid (fun w2 (h : Below w.heap.size w w2) => gas_ref K W H a n c zs w2 (HZ.out w2 h))
  have K1 := Lib.hid (fun w2 (h : Below w.heap.size w w2) => check_any K W H a n c zs w2 (HZ.out w2 h))
  rw [hg] at K0 K1
  rw [errV_zero rfl] at K1
  have K3 := Lib.hid (fun w2 (h : Below w.heap.size w w2) => mass_ok K W H a n c zs w2 (HZ.out w2 h) hg)
  have K4 := Lib.hid (fun w2 (h : Below w.heap.size w w2) => push_ok K W H a n c zs w2 (HZ.out w2 h) hg)
  have K5 := Lib.hid (fun w2 (h : Below w.heap.size w w2) => turned_ok K W H a n c zs w2 (HZ.out w2 h) hg)
  have L3 := Lib.hid (fun w2 (h : Below w.heap.size w w2) => Mass_ref K W H a n c zs w2 (HZ.out w2 h) hg)
  have L4 := Lib.hid (fun w2 (h : Below w.heap.size w w2) => Push_ref K W H a n c zs w2 (HZ.out w2 h) hg)
  have L5 := Lib.hid (fun w2 (h : Below w.heap.size w w2) => Turned_ref K W H a n c zs w2 (HZ.out w2 h) hg)
  have GS : Hid (∀ g1 o1 c1 g2 o2 c2 ls w2, Ints.Is w2 (some ⟨g1, o1, none⟩) n ls → Ints.Is w2 (some ⟨g2, o2, none⟩) n ls → Calls Tryd.prog 9 #[gas K W H (some ⟨g1, o1, none⟩) n c1, gas K W H (some ⟨g2, o2, none⟩) n c2] w2 fun e w' => e = .returned (.bool true) ∧ Below w2.heap.size w2 w') := Lib.hid (fun g1 o1 c1 g2 o2 c2 ls w2 h1 h2 => gases_any K W H (some ⟨g1, o1, none⟩) (some ⟨g2, o2, none⟩) n c1 c2 ls w2 h1 h2)
  have KR := Lib.hid (fun w2 (h : Below w.heap.size w w2) => run_ok K W H a n c zs ca cn cc cs m w2 (HZ.out w2 h) (HC.out w2 h) hf)
  have KF := Lib.hid (fun w2 (h : Below w.heap.size w w2) => Flow_ref K W H a n c zs ca cn cc cs m w2 (HZ.out w2 h) (HC.out w2 h) hf)
  obtain ⟨R, hR⟩ : ∃ R, R = runG K W H (coinN cs n) (cN zs) m := ⟨_, rfl⟩
  rw [← hR] at KR KF
  have hm2 : (m : Int) ≤ 100000 := hm1
  have HCB := Lib.hid hcb
  have HSIX := Lib.hid hsix
  clear hR hf hm1 hcb hsix
  clear hZ hC hL hnm hg
  generalize massN (cN zs) n = M at *
  generalize tot (fun j => cw K (vR K) (cN zs j)) n = Q1 at *
  generalize tot (fun j => cw K (vU K) (cN zs j)) n = Q2 at *
  obtain ⟨T, hT⟩ : ∃ T, T = trn K W H (cN zs) := ⟨_, rfl⟩
  rw [← hT] at K5 L5
  clear hT
  unfold gas at K0 K1 K3 K4 K5 L3 L4 L5 GS KR KF ⊢
  have HB : Hid (Below w.heap.size w w) := Lib.hid (Below.refl _ _)
  go_enter Tryd.func3, Tryd.ntmps3
  go_upto_region 1 with fail
  have hr0 : Row (w.alloc (.cells #[.int .i64 K, .int .i64 W, .int .i64 H, .slice a n c] 24)) w.heap.size 24 (boxG K W H a n c) := row_alloc w _ _
  have hb0 : Below w.heap.size w (w.alloc (.cells #[.int .i64 K, .int .i64 W, .int .i64 H, .slice a n c] 24)) := (Below.refl _ _).alloc (Nat.le_refl _) _
  have HR := Lib.hid hr0
  have HB := Lib.hid hb0
  clear hr0 hb0
  generalize w.alloc (.cells #[.int .i64 K, .int .i64 W, .int .i64 H, .slice a n c] 24) = w0 at *
  obtain ⟨gb, hgb⟩ : ∃ gb, gb = w.heap.size := ⟨_, rfl⟩
  rw [← hgb] at HR ⊢
  clear hgb
  have l5 := row_range HR.out
  go_wp2_with (refine wpList_load_mid rfl 24 _ rfl gb 0 rfl _ _ l5 Tryd.underlying24 rfl infoGas ?_)
  refine (K0.out w0 HB.out).mono ?_
  rintro e1 w1 ⟨rfl, hb1⟩
  clear l5
  have HR := Lib.hid (HR.out.keep hb1 HR.out.lt)
  have HB := Lib.hid (HB.out.trans (hb1.mono HB.out.size))
  clear hb1
  have l5 := row_range HR.out
  go_wp2_with (refine wpList_load_mid rfl 24 _ rfl gb 0 rfl _ _ l5 Tryd.underlying24 rfl infoGas ?_)
  refine (K1.out w1 HB.out).mono ?_
  rintro e2 w2 ⟨rfl, hb2⟩
  clear l5
  have HR := Lib.hid (HR.out.keep hb2 HR.out.lt)
  have HB := Lib.hid (HB.out.trans (hb2.mono HB.out.size))
  clear hb2
  go_wp2_with fail
  refine (TE.out w2 .nilIface 0 HB.out (errV_zero rfl).symm ⟨by omega, by omega⟩).mono ?_
  rintro e3 w3 ⟨rfl, hb3⟩
  have HR := Lib.hid (HR.out.keep hb3 HR.out.lt)
  have HB := Lib.hid (HB.out.trans (hb3.mono HB.out.size))
  clear hb3
  go_wp2_with fail
  go_loopw [10, 11] (fun u v wr => ∃ i : Nat, i ≤ cn ∧ u = .int .i64 0 ∧ v = .int .i64 (i : Nat) ∧ wr = w3) (fun _ v _ => cn - (RowKit.intOf v).toNat)
  case atStart => exact ⟨0, Nat.zero_le _, rfl, rfl, rfl⟩
  case round =>
    obtain ⟨i, hi, rfl, rfl, hw⟩ := hrel
    rw [hw]
    by_cases hic : i < cn
    · --{coin
      have hic2 : (i : Int) < (cn : Int) := by omega
      obtain ⟨qb, qo, rfl, _, hqc⟩ := (HC.out w3 HB.out).cells i hic
      dsimp only at hqc
      have hz : coinbad (cs.getD i 0) = false := by
        rcases hzb : coinbad (cs.getD i 0) with _ | _
        · rfl
        · have := any_yes (p := coinbad) (k := i) (by rw [HCN.out]; exact hic) hzb
          rw [HCB.out] at this
          cases this
      have HIC := Lib.hid hic
      clear hic
      generalize cs.getD i 0 = z at *
      unfold coinbad at hz
      have hz2 := of_decide_eq_false hz
      have h0 : ¬ z < 0 := by omega
      have h1 : ¬ 1 < z := by omega
      clear hz hz2
      go_wp2_with fail
      go_roundw
      case rel => exact ⟨i + 1, HIC.out, rfl, by go_num, by first | rfl | trivial⟩
      case measure => have := HIC.out; simp [RowKit.intOf]; omega
      --}
    · --{after
      have hic2 : ¬ (i : Int) < (cn : Int) := by omega
      have hm3 : ¬ (m : Int) < 0 := by omega
      have hm4 : ¬ 100000 < (m : Int) := by omega
      clear hw
      have f0 := HR.out.cell 0
      unfold boxG at f0
      dsimp only [List.getElem?_cons_succ, List.getElem?_cons_zero] at f0
      by_cases hk6 : (K : Int) = 6
      · have hcn0 : ¬ (cn : Int) = 0 := fun h => HSIX.out ⟨hk6, by rw [HCN.out]; omega⟩
        rw [hk6] at f0
        go_upto_region 14 with fail
        rw [← hk6] at f0
        clear f0 hk6 hcn0
        have l5 := row_range HR.out
        go_wp2_with (refine wpList_load_mid rfl 24 _ rfl gb 0 rfl _ _ l5 Tryd.underlying24 rfl infoGas ?_)
        refine (KR.out w3 HB.out).mono ?_
        rintro e4 w4 ⟨⟨ag, ac, rfl, _, hva⟩, hb4⟩
        clear l5
        have HR := Lib.hid (HR.out.keep hb4 HR.out.lt)
        have HB := Lib.hid (HB.out.trans (hb4.mono HB.out.size))
        clear hb4
        have HIA := Lib.hid hva
        clear hva
        go_upto_region 15 with fail
        have hrx : Row (w4.alloc (.cells #[.int .i64 K, .int .i64 W, .int .i64 H, .slice (some ⟨ag, 0, none⟩) n ac] 24)) w4.heap.size 24 (boxG K W H (some ⟨ag, 0, none⟩) n ac) := row_alloc w4 _ _
        have hbx : Below w4.heap.size w4 (w4.alloc (.cells #[.int .i64 K, .int .i64 W, .int .i64 H, .slice (some ⟨ag, 0, none⟩) n ac] 24)) := (Below.refl _ _).alloc (Nat.le_refl _) _
        have HR := Lib.hid (HR.out.keep hbx HR.out.lt)
        have HIA := Lib.hid (HIA.out.keep hbx)
        have HB := Lib.hid (HB.out.trans (hbx.mono HB.out.size))
        have HRA := Lib.hid hrx
        clear hbx hrx
        generalize w4.alloc (.cells #[.int .i64 K, .int .i64 W, .int .i64 H, .slice (some ⟨ag, 0, none⟩) n ac] 24) = w5 at *
        obtain ⟨ba, hba⟩ : ∃ ba, ba = w4.heap.size := ⟨_, rfl⟩
        rw [← hba] at HRA ⊢
        have HBA : Hid (ba = w4.heap.size) := Lib.hid hba
        clear hba
        go_wp2_with fail
        refine (TE.out w5 .nilIface 0 HB.out (errV_zero rfl).symm ⟨by omega, by omega⟩).mono ?_
        rintro e6 w6 ⟨rfl, hb6⟩
        have HR := Lib.hid (HR.out.keep hb6 HR.out.lt)
        have HRA := Lib.hid (HRA.out.keep hb6 HRA.out.lt)
        have HIA := Lib.hid (HIA.out.keep hb6)
        have HB := Lib.hid (HB.out.trans (hb6.mono HB.out.size))
        clear hb6
        have hla : ba < w6.heap.size := HRA.out.lt
        have hlg : gb < w6.heap.size := HR.out.lt
        have hli : ag < w6.heap.size := HIA.out.lt
        have hlw : w.heap.size ≤ w6.heap.size := HB.out.size
        go_upto_region 17 with fail
        have hrx : Row (w6.alloc (.cells #[.int .i64 0, .int .i64 0, .int .i64 0, .slice none 0 0] 24)) w6.heap.size 24 (noGas) := row_alloc w6 _ _
        have hbx : Below w6.heap.size w6 (w6.alloc (.cells #[.int .i64 0, .int .i64 0, .int .i64 0, .slice none 0 0] 24)) := (Below.refl _ _).alloc (Nat.le_refl _) _
        have HR := Lib.hid (HR.out.keep hbx HR.out.lt)
        have HRA := Lib.hid (HRA.out.keep hbx HRA.out.lt)
        have HIA := Lib.hid (HIA.out.keep hbx)
        have HB := Lib.hid (HB.out.trans (hbx.mono HB.out.size))
        have HRBB := Lib.hid hrx
        clear hbx hrx
        generalize w6.alloc (.cells #[.int .i64 0, .int .i64 0, .int .i64 0, .slice none 0 0] 24) = w7 at *
        obtain ⟨bb, hbb⟩ : ∃ bb, bb = w6.heap.size := ⟨_, rfl⟩
        rw [← hbb] at HRBB ⊢
        have HBB : Hid (bb = w6.heap.size) := Lib.hid hbb
        clear hbb
        have hbb := HBB.out
        have HNA : Hid (ba ≠ bb) := Lib.hid (by omega)
        have HNG : Hid (gb ≠ bb) := Lib.hid (by omega)
        have HNI : Hid (ag ≠ bb) := Lib.hid (by omega)
        have HBW : Hid (w.heap.size ≤ bb) := Lib.hid (by omega)
        clear hla hlg hli hlw hbb
        have hlb : bb < w7.heap.size := HRBB.out.lt
        have l5 := row_range HR.out
        go_wp2_with (refine wpList_load_mid rfl 24 _ rfl gb 0 rfl _ _ l5 Tryd.underlying24 rfl infoGas ?_)
        refine (KF.out w7 HB.out).mono ?_
        rintro e8 w8 ⟨⟨fb, fo, fc, rfl, hrd, hfb⟩, hb8⟩
        clear l5
        have HR := Lib.hid (HR.out.keep hb8 HR.out.lt)
        have HRA := Lib.hid (HRA.out.keep hb8 HRA.out.lt)
        have HRBB := Lib.hid (HRBB.out.keep hb8 HRBB.out.lt)
        have HIA := Lib.hid (HIA.out.keep hb8)
        have HB := Lib.hid (HB.out.trans (hb8.mono HB.out.size))
        clear hb8
        have HFB : Hid (fb ≠ bb) := Lib.hid (by
          rcases hfb with ⟨o', h⟩ | h
          · have := HAB.out fb o' h
            have := HBW.out
            omega
          · omega)
        have HRD := Lib.hid hrd
        clear hrd hfb hlb
        go_upto_region 19 with (refine Ops.wpList_store_arr rfl 24 _ _ rfl bb rfl 24 _ _ rfl HRBB.out rfl infoGas (boxG_one _ _ _ _ _ _) ?_; intro w60 hrow5 hon5)
        have HR := Lib.hid (HR.out.other hon5 HNG.out)
        have HRA := Lib.hid (HRA.out.other hon5 HNA.out)
        have HRBB := Lib.hid hrow5
        have HIA := Lib.hid ((HIA.out.other hon5 HNI.out).is HNM.out)
        have HIF := Lib.hid ((HRD.out.other hon5 HFB.out).is HNM.out)
        have HB := Lib.hid (HB.out.trans (hon5.below HBW.out))
        clear hrow5 hon5 HRD
        have l5 := row_range HRA.out
        have l6 := row_range HRBB.out
        go_wp2_with (first | (refine wpList_load_mid rfl 24 _ rfl ba 0 rfl _ _ l5 Tryd.underlying24 rfl infoGas ?_) | (refine wpList_load_mid rfl 24 _ rfl bb 0 rfl _ _ l6 Tryd.underlying24 rfl infoGas ?_))
        refine (GS.out ag 0 ac fb fo fc (lstN n R) w60 HIA.out HIF.out).mono ?_
        rintro e61 w61 ⟨rfl, hb61⟩
        clear l5 l6
        have HR := Lib.hid (HR.out.keep hb61 HR.out.lt)
        have HRA := Lib.hid (HRA.out.keep hb61 HRA.out.lt)
        have HRBB := Lib.hid (HRBB.out.keep hb61 HRBB.out.lt)
        have HIA := Lib.hid (HIA.out.keep hb61)
        have HIF := Lib.hid (HIF.out.keep hb61)
        have HB := Lib.hid (HB.out.trans (hb61.mono HB.out.size))
        clear hb61
        have l5 := row_range HR.out
        go_wp2_with (refine wpList_load_mid rfl 24 _ rfl gb 0 rfl _ _ l5 Tryd.underlying24 rfl infoGas ?_)
        refine (K3.out w61 HB.out).mono ?_
        rintro e62 w62 ⟨rfl, hb62⟩
        clear l5
        have HR := Lib.hid (HR.out.keep hb62 HR.out.lt)
        have HRA := Lib.hid (HRA.out.keep hb62 HRA.out.lt)
        have HRBB := Lib.hid (HRBB.out.keep hb62 HRBB.out.lt)
        have HIA := Lib.hid (HIA.out.keep hb62)
        have HIF := Lib.hid (HIF.out.keep hb62)
        have HB := Lib.hid (HB.out.trans (hb62.mono HB.out.size))
        clear hb62
        go_wp2_with fail
        refine (TE.out w62 .nilIface 0 HB.out (errV_zero rfl).symm ⟨by omega, by omega⟩).mono ?_
        rintro e63 w63 ⟨rfl, hb63⟩
        have HR := Lib.hid (HR.out.keep hb63 HR.out.lt)
        have HRA := Lib.hid (HRA.out.keep hb63 HRA.out.lt)
        have HRBB := Lib.hid (HRBB.out.keep hb63 HRBB.out.lt)
        have HIA := Lib.hid (HIA.out.keep hb63)
        have HIF := Lib.hid (HIF.out.keep hb63)
        have HB := Lib.hid (HB.out.trans (hb63.mono HB.out.size))
        clear hb63
        have l5 := row_range HR.out
        go_wp2_with (refine wpList_load_mid rfl 24 _ rfl gb 0 rfl _ _ l5 Tryd.underlying24 rfl infoGas ?_)
        refine (K4.out w63 HB.out).mono ?_
        rintro e64 w64 ⟨rfl, hb64⟩
        clear l5
        have HR := Lib.hid (HR.out.keep hb64 HR.out.lt)
        have HRA := Lib.hid (HRA.out.keep hb64 HRA.out.lt)
        have HRBB := Lib.hid (HRBB.out.keep hb64 HRBB.out.lt)
        have HIA := Lib.hid (HIA.out.keep hb64)
        have HIF := Lib.hid (HIF.out.keep hb64)
        have HB := Lib.hid (HB.out.trans (hb64.mono HB.out.size))
        clear hb64
        go_wp2_with fail
        refine (TE.out w64 .nilIface 0 HB.out (errV_zero rfl).symm ⟨by omega, by omega⟩).mono ?_
        rintro e65 w65 ⟨rfl, hb65⟩
        have HR := Lib.hid (HR.out.keep hb65 HR.out.lt)
        have HRA := Lib.hid (HRA.out.keep hb65 HRA.out.lt)
        have HRBB := Lib.hid (HRBB.out.keep hb65 HRBB.out.lt)
        have HIA := Lib.hid (HIA.out.keep hb65)
        have HIF := Lib.hid (HIF.out.keep hb65)
        have HB := Lib.hid (HB.out.trans (hb65.mono HB.out.size))
        clear hb65
        have l5 := row_range HR.out
        go_wp2_with (refine wpList_load_mid rfl 24 _ rfl gb 0 rfl _ _ l5 Tryd.underlying24 rfl infoGas ?_)
        refine (K5.out w65 HB.out).mono ?_
        rintro e66 w66 ⟨⟨tg, tc, rfl, _, hvt⟩, hb66⟩
        clear l5
        have HR := Lib.hid (HR.out.keep hb66 HR.out.lt)
        have HRA := Lib.hid (HRA.out.keep hb66 HRA.out.lt)
        have HRBB := Lib.hid (HRBB.out.keep hb66 HRBB.out.lt)
        have HIA := Lib.hid (HIA.out.keep hb66)
        have HIF := Lib.hid (HIF.out.keep hb66)
        have HB := Lib.hid (HB.out.trans (hb66.mono HB.out.size))
        clear hb66
        have HIT := Lib.hid (hvt.is HNM.out)
        clear hvt
        go_upto_region 25 with fail
        have hrx : Row (w66.alloc (.cells #[.int .i64 K, .int .i64 W, .int .i64 H, .slice (some ⟨tg, 0, none⟩) n tc] 24)) w66.heap.size 24 (boxG K W H (some ⟨tg, 0, none⟩) n tc) := row_alloc w66 _ _
        have hbx : Below w66.heap.size w66 (w66.alloc (.cells #[.int .i64 K, .int .i64 W, .int .i64 H, .slice (some ⟨tg, 0, none⟩) n tc] 24)) := (Below.refl _ _).alloc (Nat.le_refl _) _
        have HR := Lib.hid (HR.out.keep hbx HR.out.lt)
        have HRA := Lib.hid (HRA.out.keep hbx HRA.out.lt)
        have HRBB := Lib.hid (HRBB.out.keep hbx HRBB.out.lt)
        have HIA := Lib.hid (HIA.out.keep hbx)
        have HIF := Lib.hid (HIF.out.keep hbx)
        have HIT := Lib.hid (HIT.out.keep hbx)
        have HB := Lib.hid (HB.out.trans (hbx.mono HB.out.size))
        have HRT := Lib.hid hrx
        clear hbx hrx
        generalize w66.alloc (.cells #[.int .i64 K, .int .i64 W, .int .i64 H, .slice (some ⟨tg, 0, none⟩) n tc] 24) = w67 at *
        obtain ⟨bt, hbt⟩ : ∃ bt, bt = w66.heap.size := ⟨_, rfl⟩
        rw [← hbt] at HRT ⊢
        have HBT : Hid (bt = w66.heap.size) := Lib.hid hbt
        clear hbt
        go_wp2_with fail
        refine (TE.out w67 .nilIface 0 HB.out (errV_zero rfl).symm ⟨by omega, by omega⟩).mono ?_
        rintro e68 w68 ⟨rfl, hb68⟩
        have HR := Lib.hid (HR.out.keep hb68 HR.out.lt)
        have HRA := Lib.hid (HRA.out.keep hb68 HRA.out.lt)
        have HRBB := Lib.hid (HRBB.out.keep hb68 HRBB.out.lt)
        have HRT := Lib.hid (HRT.out.keep hb68 HRT.out.lt)
        have HIA := Lib.hid (HIA.out.keep hb68)
        have HIF := Lib.hid (HIF.out.keep hb68)
        have HIT := Lib.hid (HIT.out.keep hb68)
        have HB := Lib.hid (HB.out.trans (hb68.mono HB.out.size))
        clear hb68
        have l5 := row_range HR.out
        go_wp2_with (refine wpList_load_mid rfl 24 _ rfl gb 0 rfl _ _ l5 Tryd.underlying24 rfl infoGas ?_)
        refine (L3.out w68 HB.out).mono ?_
        rintro e69 w69 ⟨rfl, hb69⟩
        clear l5
        have HR := Lib.hid (HR.out.keep hb69 HR.out.lt)
        have HRA := Lib.hid (HRA.out.keep hb69 HRA.out.lt)
        have HRBB := Lib.hid (HRBB.out.keep hb69 HRBB.out.lt)
        have HRT := Lib.hid (HRT.out.keep hb69 HRT.out.lt)
        have HIA := Lib.hid (HIA.out.keep hb69)
        have HIF := Lib.hid (HIF.out.keep hb69)
        have HIT := Lib.hid (HIT.out.keep hb69)
        have HB := Lib.hid (HB.out.trans (hb69.mono HB.out.size))
        clear hb69
        have l5 := row_range HR.out
        go_wp2_with (refine wpList_load_mid rfl 24 _ rfl gb 0 rfl _ _ l5 Tryd.underlying24 rfl infoGas ?_)
        refine (L4.out w69 HB.out).mono ?_
        rintro e70 w70 ⟨rfl, hb70⟩
        clear l5
        have HR := Lib.hid (HR.out.keep hb70 HR.out.lt)
        have HRA := Lib.hid (HRA.out.keep hb70 HRA.out.lt)
        have HRBB := Lib.hid (HRBB.out.keep hb70 HRBB.out.lt)
        have HRT := Lib.hid (HRT.out.keep hb70 HRT.out.lt)
        have HIA := Lib.hid (HIA.out.keep hb70)
        have HIF := Lib.hid (HIF.out.keep hb70)
        have HIT := Lib.hid (HIT.out.keep hb70)
        have HB := Lib.hid (HB.out.trans (hb70.mono HB.out.size))
        clear hb70
        have l5 := row_range HR.out
        go_wp2_with (refine wpList_load_mid rfl 24 _ rfl gb 0 rfl _ _ l5 Tryd.underlying24 rfl infoGas ?_)
        refine (L5.out w70 HB.out).mono ?_
        rintro e71 w71 ⟨⟨wg, wc, rfl, _, hvw⟩, hb71⟩
        clear l5
        have HR := Lib.hid (HR.out.keep hb71 HR.out.lt)
        have HRA := Lib.hid (HRA.out.keep hb71 HRA.out.lt)
        have HRBB := Lib.hid (HRBB.out.keep hb71 HRBB.out.lt)
        have HRT := Lib.hid (HRT.out.keep hb71 HRT.out.lt)
        have HIA := Lib.hid (HIA.out.keep hb71)
        have HIF := Lib.hid (HIF.out.keep hb71)
        have HIT := Lib.hid (HIT.out.keep hb71)
        have HB := Lib.hid (HB.out.trans (hb71.mono HB.out.size))
        clear hb71
        have HIW := Lib.hid (hvw.is HNM.out)
        clear hvw
        go_upto_region 34 with fail
        have hrx : Row (w71.alloc (.cells #[.int .i64 K, .int .i64 W, .int .i64 H, .slice (some ⟨wg, 0, none⟩) n wc] 24)) w71.heap.size 24 (boxG K W H (some ⟨wg, 0, none⟩) n wc) := row_alloc w71 _ _
        have hbx : Below w71.heap.size w71 (w71.alloc (.cells #[.int .i64 K, .int .i64 W, .int .i64 H, .slice (some ⟨wg, 0, none⟩) n wc] 24)) := (Below.refl _ _).alloc (Nat.le_refl _) _
        have HR := Lib.hid (HR.out.keep hbx HR.out.lt)
        have HRA := Lib.hid (HRA.out.keep hbx HRA.out.lt)
        have HRBB := Lib.hid (HRBB.out.keep hbx HRBB.out.lt)
        have HRT := Lib.hid (HRT.out.keep hbx HRT.out.lt)
        have HIA := Lib.hid (HIA.out.keep hbx)
        have HIF := Lib.hid (HIF.out.keep hbx)
        have HIT := Lib.hid (HIT.out.keep hbx)
        have HIW := Lib.hid (HIW.out.keep hbx)
        have HB := Lib.hid (HB.out.trans (hbx.mono HB.out.size))
        have HRW := Lib.hid hrx
        clear hbx hrx
        generalize w71.alloc (.cells #[.int .i64 K, .int .i64 W, .int .i64 H, .slice (some ⟨wg, 0, none⟩) n wc] 24) = w72 at *
        obtain ⟨bw, hbw⟩ : ∃ bw, bw = w71.heap.size := ⟨_, rfl⟩
        rw [← hbw] at HRW ⊢
        have HBW : Hid (bw = w71.heap.size) := Lib.hid hbw
        clear hbw
        have l5 := row_range HRT.out
        have l6 := row_range HRW.out
        go_wp2_with (first | (refine wpList_load_mid rfl 24 _ rfl bt 0 rfl _ _ l5 Tryd.underlying24 rfl infoGas ?_) | (refine wpList_load_mid rfl 24 _ rfl bw 0 rfl _ _ l6 Tryd.underlying24 rfl infoGas ?_))
        refine (GS.out tg 0 tc wg 0 wc (lstN n T) w72 HIT.out HIW.out).mono ?_
        rintro e73 w73 ⟨rfl, hb73⟩
        clear l5 l6
        have HR := Lib.hid (HR.out.keep hb73 HR.out.lt)
        have HRA := Lib.hid (HRA.out.keep hb73 HRA.out.lt)
        have HRBB := Lib.hid (HRBB.out.keep hb73 HRBB.out.lt)
        have HRT := Lib.hid (HRT.out.keep hb73 HRT.out.lt)
        have HRW := Lib.hid (HRW.out.keep hb73 HRW.out.lt)
        have HIA := Lib.hid (HIA.out.keep hb73)
        have HIF := Lib.hid (HIF.out.keep hb73)
        have HIT := Lib.hid (HIT.out.keep hb73)
        have HIW := Lib.hid (HIW.out.keep hb73)
        have HB := Lib.hid (HB.out.trans (hb73.mono HB.out.size))
        clear hb73
        go_wp2_with fail
        go_ret
        exact ⟨by simp, HB.out⟩
      · go_upto_region 14 with fail
        clear f0 hk6
        have l5 := row_range HR.out
        go_wp2_with (refine wpList_load_mid rfl 24 _ rfl gb 0 rfl _ _ l5 Tryd.underlying24 rfl infoGas ?_)
        refine (KR.out w3 HB.out).mono ?_
        rintro e4 w4 ⟨⟨ag, ac, rfl, _, hva⟩, hb4⟩
        clear l5
        have HR := Lib.hid (HR.out.keep hb4 HR.out.lt)
        have HB := Lib.hid (HB.out.trans (hb4.mono HB.out.size))
        clear hb4
        have HIA := Lib.hid hva
        clear hva
        go_upto_region 15 with fail
        have hrx : Row (w4.alloc (.cells #[.int .i64 K, .int .i64 W, .int .i64 H, .slice (some ⟨ag, 0, none⟩) n ac] 24)) w4.heap.size 24 (boxG K W H (some ⟨ag, 0, none⟩) n ac) := row_alloc w4 _ _
        have hbx : Below w4.heap.size w4 (w4.alloc (.cells #[.int .i64 K, .int .i64 W, .int .i64 H, .slice (some ⟨ag, 0, none⟩) n ac] 24)) := (Below.refl _ _).alloc (Nat.le_refl _) _
        have HR := Lib.hid (HR.out.keep hbx HR.out.lt)
        have HIA := Lib.hid (HIA.out.keep hbx)
        have HB := Lib.hid (HB.out.trans (hbx.mono HB.out.size))
        have HRA := Lib.hid hrx
        clear hbx hrx
        generalize w4.alloc (.cells #[.int .i64 K, .int .i64 W, .int .i64 H, .slice (some ⟨ag, 0, none⟩) n ac] 24) = w5 at *
        obtain ⟨ba, hba⟩ : ∃ ba, ba = w4.heap.size := ⟨_, rfl⟩
        rw [← hba] at HRA ⊢
        have HBA : Hid (ba = w4.heap.size) := Lib.hid hba
        clear hba
        go_wp2_with fail
        refine (TE.out w5 .nilIface 0 HB.out (errV_zero rfl).symm ⟨by omega, by omega⟩).mono ?_
        rintro e6 w6 ⟨rfl, hb6⟩
        have HR := Lib.hid (HR.out.keep hb6 HR.out.lt)
        have HRA := Lib.hid (HRA.out.keep hb6 HRA.out.lt)
        have HIA := Lib.hid (HIA.out.keep hb6)
        have HB := Lib.hid (HB.out.trans (hb6.mono HB.out.size))
        clear hb6
        have hla : ba < w6.heap.size := HRA.out.lt
        have hlg : gb < w6.heap.size := HR.out.lt
        have hli : ag < w6.heap.size := HIA.out.lt
        have hlw : w.heap.size ≤ w6.heap.size := HB.out.size
        go_upto_region 17 with fail
        have hrx : Row (w6.alloc (.cells #[.int .i64 0, .int .i64 0, .int .i64 0, .slice none 0 0] 24)) w6.heap.size 24 (noGas) := row_alloc w6 _ _
        have hbx : Below w6.heap.size w6 (w6.alloc (.cells #[.int .i64 0, .int .i64 0, .int .i64 0, .slice none 0 0] 24)) := (Below.refl _ _).alloc (Nat.le_refl _) _
        have HR := Lib.hid (HR.out.keep hbx HR.out.lt)
        have HRA := Lib.hid (HRA.out.keep hbx HRA.out.lt)
        have HIA := Lib.hid (HIA.out.keep hbx)
        have HB := Lib.hid (HB.out.trans (hbx.mono HB.out.size))
        have HRBB := Lib.hid hrx
        clear hbx hrx
        generalize w6.alloc (.cells #[.int .i64 0, .int .i64 0, .int .i64 0, .slice none 0 0] 24) = w7 at *
        obtain ⟨bb, hbb⟩ : ∃ bb, bb = w6.heap.size := ⟨_, rfl⟩
        rw [← hbb] at HRBB ⊢
        have HBB : Hid (bb = w6.heap.size) := Lib.hid hbb
        clear hbb
        have hbb := HBB.out
        have HNA : Hid (ba ≠ bb) := Lib.hid (by omega)
        have HNG : Hid (gb ≠ bb) := Lib.hid (by omega)
        have HNI : Hid (ag ≠ bb) := Lib.hid (by omega)
        have HBW : Hid (w.heap.size ≤ bb) := Lib.hid (by omega)
        clear hla hlg hli hlw hbb
        have hlb : bb < w7.heap.size := HRBB.out.lt
        have l5 := row_range HR.out
        go_wp2_with (refine wpList_load_mid rfl 24 _ rfl gb 0 rfl _ _ l5 Tryd.underlying24 rfl infoGas ?_)
        refine (KF.out w7 HB.out).mono ?_
        rintro e8 w8 ⟨⟨fb, fo, fc, rfl, hrd, hfb⟩, hb8⟩
        clear l5
        have HR := Lib.hid (HR.out.keep hb8 HR.out.lt)
        have HRA := Lib.hid (HRA.out.keep hb8 HRA.out.lt)
        have HRBB := Lib.hid (HRBB.out.keep hb8 HRBB.out.lt)
        have HIA := Lib.hid (HIA.out.keep hb8)
        have HB := Lib.hid (HB.out.trans (hb8.mono HB.out.size))
        clear hb8
        have HFB : Hid (fb ≠ bb) := Lib.hid (by
          rcases hfb with ⟨o', h⟩ | h
          · have := HAB.out fb o' h
            have := HBW.out
            omega
          · omega)
        have HRD := Lib.hid hrd
        clear hrd hfb hlb
        go_upto_region 19 with (refine Ops.wpList_store_arr rfl 24 _ _ rfl bb rfl 24 _ _ rfl HRBB.out rfl infoGas (boxG_one _ _ _ _ _ _) ?_; intro w60 hrow5 hon5)
        have HR := Lib.hid (HR.out.other hon5 HNG.out)
        have HRA := Lib.hid (HRA.out.other hon5 HNA.out)
        have HRBB := Lib.hid hrow5
        have HIA := Lib.hid ((HIA.out.other hon5 HNI.out).is HNM.out)
        have HIF := Lib.hid ((HRD.out.other hon5 HFB.out).is HNM.out)
        have HB := Lib.hid (HB.out.trans (hon5.below HBW.out))
        clear hrow5 hon5 HRD
        have l5 := row_range HRA.out
        have l6 := row_range HRBB.out
        go_wp2_with (first | (refine wpList_load_mid rfl 24 _ rfl ba 0 rfl _ _ l5 Tryd.underlying24 rfl infoGas ?_) | (refine wpList_load_mid rfl 24 _ rfl bb 0 rfl _ _ l6 Tryd.underlying24 rfl infoGas ?_))
        refine (GS.out ag 0 ac fb fo fc (lstN n R) w60 HIA.out HIF.out).mono ?_
        rintro e61 w61 ⟨rfl, hb61⟩
        clear l5 l6
        have HR := Lib.hid (HR.out.keep hb61 HR.out.lt)
        have HRA := Lib.hid (HRA.out.keep hb61 HRA.out.lt)
        have HRBB := Lib.hid (HRBB.out.keep hb61 HRBB.out.lt)
        have HIA := Lib.hid (HIA.out.keep hb61)
        have HIF := Lib.hid (HIF.out.keep hb61)
        have HB := Lib.hid (HB.out.trans (hb61.mono HB.out.size))
        clear hb61
        have l5 := row_range HR.out
        go_wp2_with (refine wpList_load_mid rfl 24 _ rfl gb 0 rfl _ _ l5 Tryd.underlying24 rfl infoGas ?_)
        refine (K3.out w61 HB.out).mono ?_
        rintro e62 w62 ⟨rfl, hb62⟩
        clear l5
        have HR := Lib.hid (HR.out.keep hb62 HR.out.lt)
        have HRA := Lib.hid (HRA.out.keep hb62 HRA.out.lt)
        have HRBB := Lib.hid (HRBB.out.keep hb62 HRBB.out.lt)
        have HIA := Lib.hid (HIA.out.keep hb62)
        have HIF := Lib.hid (HIF.out.keep hb62)
        have HB := Lib.hid (HB.out.trans (hb62.mono HB.out.size))
        clear hb62
        go_wp2_with fail
        refine (TE.out w62 .nilIface 0 HB.out (errV_zero rfl).symm ⟨by omega, by omega⟩).mono ?_
        rintro e63 w63 ⟨rfl, hb63⟩
        have HR := Lib.hid (HR.out.keep hb63 HR.out.lt)
        have HRA := Lib.hid (HRA.out.keep hb63 HRA.out.lt)
        have HRBB := Lib.hid (HRBB.out.keep hb63 HRBB.out.lt)
        have HIA := Lib.hid (HIA.out.keep hb63)
        have HIF := Lib.hid (HIF.out.keep hb63)
        have HB := Lib.hid (HB.out.trans (hb63.mono HB.out.size))
        clear hb63
        have l5 := row_range HR.out
        go_wp2_with (refine wpList_load_mid rfl 24 _ rfl gb 0 rfl _ _ l5 Tryd.underlying24 rfl infoGas ?_)
        refine (K4.out w63 HB.out).mono ?_
        rintro e64 w64 ⟨rfl, hb64⟩
        clear l5
        have HR := Lib.hid (HR.out.keep hb64 HR.out.lt)
        have HRA := Lib.hid (HRA.out.keep hb64 HRA.out.lt)
        have HRBB := Lib.hid (HRBB.out.keep hb64 HRBB.out.lt)
        have HIA := Lib.hid (HIA.out.keep hb64)
        have HIF := Lib.hid (HIF.out.keep hb64)
        have HB := Lib.hid (HB.out.trans (hb64.mono HB.out.size))
        clear hb64
        go_wp2_with fail
        refine (TE.out w64 .nilIface 0 HB.out (errV_zero rfl).symm ⟨by omega, by omega⟩).mono ?_
        rintro e65 w65 ⟨rfl, hb65⟩
        have HR := Lib.hid (HR.out.keep hb65 HR.out.lt)
        have HRA := Lib.hid (HRA.out.keep hb65 HRA.out.lt)
        have HRBB := Lib.hid (HRBB.out.keep hb65 HRBB.out.lt)
        have HIA := Lib.hid (HIA.out.keep hb65)
        have HIF := Lib.hid (HIF.out.keep hb65)
        have HB := Lib.hid (HB.out.trans (hb65.mono HB.out.size))
        clear hb65
        have l5 := row_range HR.out
        go_wp2_with (refine wpList_load_mid rfl 24 _ rfl gb 0 rfl _ _ l5 Tryd.underlying24 rfl infoGas ?_)
        refine (K5.out w65 HB.out).mono ?_
        rintro e66 w66 ⟨⟨tg, tc, rfl, _, hvt⟩, hb66⟩
        clear l5
        have HR := Lib.hid (HR.out.keep hb66 HR.out.lt)
        have HRA := Lib.hid (HRA.out.keep hb66 HRA.out.lt)
        have HRBB := Lib.hid (HRBB.out.keep hb66 HRBB.out.lt)
        have HIA := Lib.hid (HIA.out.keep hb66)
        have HIF := Lib.hid (HIF.out.keep hb66)
        have HB := Lib.hid (HB.out.trans (hb66.mono HB.out.size))
        clear hb66
        have HIT := Lib.hid (hvt.is HNM.out)
        clear hvt
        go_upto_region 25 with fail
        have hrx : Row (w66.alloc (.cells #[.int .i64 K, .int .i64 W, .int .i64 H, .slice (some ⟨tg, 0, none⟩) n tc] 24)) w66.heap.size 24 (boxG K W H (some ⟨tg, 0, none⟩) n tc) := row_alloc w66 _ _
        have hbx : Below w66.heap.size w66 (w66.alloc (.cells #[.int .i64 K, .int .i64 W, .int .i64 H, .slice (some ⟨tg, 0, none⟩) n tc] 24)) := (Below.refl _ _).alloc (Nat.le_refl _) _
        have HR := Lib.hid (HR.out.keep hbx HR.out.lt)
        have HRA := Lib.hid (HRA.out.keep hbx HRA.out.lt)
        have HRBB := Lib.hid (HRBB.out.keep hbx HRBB.out.lt)
        have HIA := Lib.hid (HIA.out.keep hbx)
        have HIF := Lib.hid (HIF.out.keep hbx)
        have HIT := Lib.hid (HIT.out.keep hbx)
        have HB := Lib.hid (HB.out.trans (hbx.mono HB.out.size))
        have HRT := Lib.hid hrx
        clear hbx hrx
        generalize w66.alloc (.cells #[.int .i64 K, .int .i64 W, .int .i64 H, .slice (some ⟨tg, 0, none⟩) n tc] 24) = w67 at *
        obtain ⟨bt, hbt⟩ : ∃ bt, bt = w66.heap.size := ⟨_, rfl⟩
        rw [← hbt] at HRT ⊢
        have HBT : Hid (bt = w66.heap.size) := Lib.hid hbt
        clear hbt
        go_wp2_with fail
        refine (TE.out w67 .nilIface 0 HB.out (errV_zero rfl).symm ⟨by omega, by omega⟩).mono ?_
        rintro e68 w68 ⟨rfl, hb68⟩
        have HR := Lib.hid (HR.out.keep hb68 HR.out.lt)
        have HRA := Lib.hid (HRA.out.keep hb68 HRA.out.lt)
        have HRBB := Lib.hid (HRBB.out.keep hb68 HRBB.out.lt)
        have HRT := Lib.hid (HRT.out.keep hb68 HRT.out.lt)
        have HIA := Lib.hid (HIA.out.keep hb68)
        have HIF := Lib.hid (HIF.out.keep hb68)
        have HIT := Lib.hid (HIT.out.keep hb68)
        have HB := Lib.hid (HB.out.trans (hb68.mono HB.out.size))
        clear hb68
        have l5 := row_range HR.out
        go_wp2_with (refine wpList_load_mid rfl 24 _ rfl gb 0 rfl _ _ l5 Tryd.underlying24 rfl infoGas ?_)
        refine (L3.out w68 HB.out).mono ?_
        rintro e69 w69 ⟨rfl, hb69⟩
        clear l5
        have HR := Lib.hid (HR.out.keep hb69 HR.out.lt)
        have HRA := Lib.hid (HRA.out.keep hb69 HRA.out.lt)
        have HRBB := Lib.hid (HRBB.out.keep hb69 HRBB.out.lt)
        have HRT := Lib.hid (HRT.out.keep hb69 HRT.out.lt)
        have HIA := Lib.hid (HIA.out.keep hb69)
        have HIF := Lib.hid (HIF.out.keep hb69)
        have HIT := Lib.hid (HIT.out.keep hb69)
        have HB := Lib.hid (HB.out.trans (hb69.mono HB.out.size))
        clear hb69
        have l5 := row_range HR.out
        go_wp2_with (refine wpList_load_mid rfl 24 _ rfl gb 0 rfl _ _ l5 Tryd.underlying24 rfl infoGas ?_)
        refine (L4.out w69 HB.out).mono ?_
        rintro e70 w70 ⟨rfl, hb70⟩
        clear l5
        have HR := Lib.hid (HR.out.keep hb70 HR.out.lt)
        have HRA := Lib.hid (HRA.out.keep hb70 HRA.out.lt)
        have HRBB := Lib.hid (HRBB.out.keep hb70 HRBB.out.lt)
        have HRT := Lib.hid (HRT.out.keep hb70 HRT.out.lt)
        have HIA := Lib.hid (HIA.out.keep hb70)
        have HIF := Lib.hid (HIF.out.keep hb70)
        have HIT := Lib.hid (HIT.out.keep hb70)
        have HB := Lib.hid (HB.out.trans (hb70.mono HB.out.size))
        clear hb70
        have l5 := row_range HR.out
        go_wp2_with (refine wpList_load_mid rfl 24 _ rfl gb 0 rfl _ _ l5 Tryd.underlying24 rfl infoGas ?_)
        refine (L5.out w70 HB.out).mono ?_
        rintro e71 w71 ⟨⟨wg, wc, rfl, _, hvw⟩, hb71⟩
        clear l5
        have HR := Lib.hid (HR.out.keep hb71 HR.out.lt)
        have HRA := Lib.hid (HRA.out.keep hb71 HRA.out.lt)
        have HRBB := Lib.hid (HRBB.out.keep hb71 HRBB.out.lt)
        have HRT := Lib.hid (HRT.out.keep hb71 HRT.out.lt)
        have HIA := Lib.hid (HIA.out.keep hb71)
        have HIF := Lib.hid (HIF.out.keep hb71)
        have HIT := Lib.hid (HIT.out.keep hb71)
        have HB := Lib.hid (HB.out.trans (hb71.mono HB.out.size))
        clear hb71
        have HIW := Lib.hid (hvw.is HNM.out)
        clear hvw
        go_upto_region 34 with fail
        have hrx : Row (w71.alloc (.cells #[.int .i64 K, .int .i64 W, .int .i64 H, .slice (some ⟨wg, 0, none⟩) n wc] 24)) w71.heap.size 24 (boxG K W H (some ⟨wg, 0, none⟩) n wc) := row_alloc w71 _ _
        have hbx : Below w71.heap.size w71 (w71.alloc (.cells #[.int .i64 K, .int .i64 W, .int .i64 H, .slice (some ⟨wg, 0, none⟩) n wc] 24)) := (Below.refl _ _).alloc (Nat.le_refl _) _
        have HR := Lib.hid (HR.out.keep hbx HR.out.lt)
        have HRA := Lib.hid (HRA.out.keep hbx HRA.out.lt)
        have HRBB := Lib.hid (HRBB.out.keep hbx HRBB.out.lt)
        have HRT := Lib.hid (HRT.out.keep hbx HRT.out.lt)
        have HIA := Lib.hid (HIA.out.keep hbx)
        have HIF := Lib.hid (HIF.out.keep hbx)
        have HIT := Lib.hid (HIT.out.keep hbx)
        have HIW := Lib.hid (HIW.out.keep hbx)
        have HB := Lib.hid (HB.out.trans (hbx.mono HB.out.size))
        have HRW := Lib.hid hrx
        clear hbx hrx
        generalize w71.alloc (.cells #[.int .i64 K, .int .i64 W, .int .i64 H, .slice (some ⟨wg, 0, none⟩) n wc] 24) = w72 at *
        obtain ⟨bw, hbw⟩ : ∃ bw, bw = w71.heap.size := ⟨_, rfl⟩
        rw [← hbw] at HRW ⊢
        have HBW : Hid (bw = w71.heap.size) := Lib.hid hbw
        clear hbw
        have l5 := row_range HRT.out
        have l6 := row_range HRW.out
        go_wp2_with (first | (refine wpList_load_mid rfl 24 _ rfl bt 0 rfl _ _ l5 Tryd.underlying24 rfl infoGas ?_) | (refine wpList_load_mid rfl 24 _ rfl bw 0 rfl _ _ l6 Tryd.underlying24 rfl infoGas ?_))
        refine (GS.out tg 0 tc wg 0 wc (lstN n T) w72 HIT.out HIW.out).mono ?_
        rintro e73 w73 ⟨rfl, hb73⟩
        clear l5 l6
        have HR := Lib.hid (HR.out.keep hb73 HR.out.lt)
        have HRA := Lib.hid (HRA.out.keep hb73 HRA.out.lt)
        have HRBB := Lib.hid (HRBB.out.keep hb73 HRBB.out.lt)
        have HRT := Lib.hid (HRT.out.keep hb73 HRT.out.lt)
        have HRW := Lib.hid (HRW.out.keep hb73 HRW.out.lt)
        have HIA := Lib.hid (HIA.out.keep hb73)
        have HIF := Lib.hid (HIF.out.keep hb73)
        have HIT := Lib.hid (HIT.out.keep hb73)
        have HIW := Lib.hid (HIW.out.keep hb73)
        have HB := Lib.hid (HB.out.trans (hb73.mono HB.out.size))
        clear hb73
        go_wp2_with fail
        go_ret
        exact ⟨by simp, HB.out⟩
end Gs
end Go.Proofs.YtekoldebcihdoaaDoor
