/- THE LAW GasFlows: the gas is sound, the run's fault is not 0. -/
import Derived.Test.YtekoldebcihdoaaDoorGfB
import Derived.Test.YtekoldebcihdoaaDoorGsI
namespace Go.Proofs.YtekoldebcihdoaaDoor
set_option linter.unusedSimpArgs false
set_option linter.unusedVariables false
open Go.RowKit
namespace Gs
open Tld Mem
set_option maxHeartbeats 16000000 in
set_option maxRecDepth 1000000 in
theorem gasFlows_r (K W H : Nat) (a : Option Addr) (n c : Nat) (zs : List Int) (ca : Option Addr) (cn cc : Nat) (cs : List Int) (m : Int) (w : World) (hZ : Ints.Is w a n zs) (hC : Ints.Is w ca cn cs) (hL : Tld.Laid w) (hg : gfault K W H zs = 0) (hf : rfault K W H zs cs m ≠ 0) :
    Calls Tryd.prog 3 #[gas K W H a n c, .slice ca cn cc, .int .i64 m] w fun e w' => e = .returned (.bool true) ∧ Below w.heap.size w w' := by
  have HZ : Hid (∀ w2, Below w.heap.size w w2 → Ints.Is w2 a n zs) := Lib.hid (fun w2 h => hZ.keep h)
  have HC : Hid (∀ w2, Below w.heap.size w w2 → Ints.Is w2 ca cn cs) := Lib.hid (fun w2 h => hC.keep h)
  have HCN := Lib.hid hC.len
  have HCL := hC.le
  unfold maxLen at HCL
  have HL := Lib.hid hL
  have TE : Hid (∀ w2 v k, Below w.heap.size w w2 → v = errV k → 0 ≤ k ∧ k ≤ 3 → Calls Tryd.prog 6 #[v, .int .i64 k] w2 fun e w' => e = .returned (.bool true) ∧ Below w2.heap.size w2 w') := Lib.hid (fun w2 v k h hv hk => by
    have := same_any k k w2 (HL.out.keep h) (by omega) (by omega)
    rw [beq_self_eq_true] at this
    rw [hv]
    exact this)
  have GZ : Hid (∀ w2, Calls Tryd.prog 9 #[.agg #[.int .i64 0, .int .i64 0, .int .i64 0, .slice none 0 0], .agg #[.int .i64 0, .int .i64 0, .int .i64 0, .slice none 0 0]] w2 fun e w' => e = .returned (.bool true) ∧ Below w2.heap.size w2 w') := Lib.hid (fun w2 => gases_any 0 0 0 none none 0 0 0 [] w2 (Ints.Is.nil _) (Ints.Is.nil _))
  obtain ⟨ev, hev⟩ : ∃ ev, ev = errV (rfault K W H zs cs m) := ⟨_, rfl⟩
  have HGF := Lib.hid hg
  have hnm : n ≤ maxLen := hZ.le
  have HNM := Lib.hid hnm
  have K0 := Lib.hid (fun w2 (h : Below w.heap.size w w2) => gas_ref K W H a n c zs w2 (HZ.out w2 h))
  have K1 := Lib.hid (fun w2 (h : Below w.heap.size w w2) => check_any K W H a n c zs w2 (HZ.out w2 h))
  rw [hg] at K0 K1
  rw [errV_zero rfl] at K1
  have K3 := Lib.hid (fun w2 (h : Below w.heap.size w w2) => mass_ok K W H a n c zs w2 (HZ.out w2 h) hg)
  have K4 := Lib.hid (fun w2 (h : Below w.heap.size w w2) => push_ok K W H a n c zs w2 (HZ.out w2 h) hg)
  have K5 := Lib.hid (fun w2 (h : Below w.heap.size w w2) => turned_ok K W H a n c zs w2 (HZ.out w2 h) hg)
  have L3 := Lib.hid (fun w2 (h : Below w.heap.size w w2) => Mass_ref K W H a n c zs w2 (HZ.out w2 h) hg)
  have L4 := Lib.hid (fun w2 (h : Below w.heap.size w w2) => Push_ref K W H a n c zs w2 (HZ.out w2 h) hg)
  have L5 := Lib.hid (fun w2 (h : Below w.heap.size w w2) => Turned_ref K W H a n c zs w2 (HZ.out w2 h) hg)
  have GS : Hid (∀ g1 o1 c1 g2 o2 c2 ls w2, Ints.Is w2 (some ⟨g1, o1, none⟩) n ls → Ints.Is w2 (some ⟨g2, o2, none⟩) n ls → Calls Tryd.prog 9 #[gas K W H (some ⟨g1, o1, none⟩) n c1, gas K W H (some ⟨g2, o2, none⟩) n c2] w2 fun e w' => e = .returned (.bool true) ∧ Below w2.heap.size w2 w') := Lib.hid (fun g1 o1 c1 g2 o2 c2 ls w2 h1 h2 => gases_any K W H (some ⟨g1, o1, none⟩) (some ⟨g2, o2, none⟩) n c1 c2 ls w2 h1 h2)
  have KB := Lib.hid (fun w2 (h : Below w.heap.size w w2) => run_bad K W H a n c zs ca cn cc cs m w2 (HZ.out w2 h) (HC.out w2 h) hf)
  have HNF := Lib.hid hf
  rw [← hev] at KB
  have HEV := Lib.hid hev
  clear hev hf
  clear hZ hC hL hnm hg
  generalize massN (cN zs) n = M at *
  generalize tot (fun j => cw K (vR K) (cN zs j)) n = Q1 at *
  generalize tot (fun j => cw K (vU K) (cN zs j)) n = Q2 at *
  obtain ⟨T, hT⟩ : ∃ T, T = trn K W H (cN zs) := ⟨_, rfl⟩
  rw [← hT] at K5 L5
  clear hT
  unfold gas at K0 K1 K3 K4 K5 L3 L4 L5 GS KB ⊢
  have HB : Hid (Below w.heap.size w w) := Lib.hid (Below.refl _ _)
  go_enter Tryd.func3, Tryd.ntmps3
  go_upto_region 1 with fail
  have hr0 : Row (w.alloc (.cells #[.int .i64 K, .int .i64 W, .int .i64 H, .slice a n c] 24)) w.heap.size 24 (boxG K W H a n c) := row_alloc w _ _
  have hb0 : Below w.heap.size w (w.alloc (.cells #[.int .i64 K, .int .i64 W, .int .i64 H, .slice a n c] 24)) := (Below.refl _ _).alloc (Nat.le_refl _) _
  have HR := Lib.hid hr0
  have HB := Lib.hid hb0
  clear hr0 hb0
  generalize w.alloc (.cells #[.int .i64 K, .int .i64 W, .int .i64 H, .slice a n c] 24) = w0 at *
  obtain ⟨gb, hgb⟩ : ∃ gb, gb = w.heap.size := ⟨_, rfl⟩
  rw [← hgb] at HR ⊢
  clear hgb
  have l5 := row_range HR.out
  go_wp2_with (refine wpList_load_mid rfl 24 _ rfl gb 0 rfl _ _ l5 Tryd.underlying24 rfl infoGas ?_)
  refine (K0.out w0 HB.out).mono ?_
  rintro e1 w1 ⟨rfl, hb1⟩
  clear l5
  have HR := Lib.hid (HR.out.keep hb1 HR.out.lt)
  have HB := Lib.hid (HB.out.trans (hb1.mono HB.out.size))
  clear hb1
  have l5 := row_range HR.out
  go_wp2_with (refine wpList_load_mid rfl 24 _ rfl gb 0 rfl _ _ l5 Tryd.underlying24 rfl infoGas ?_)
  refine (K1.out w1 HB.out).mono ?_
  rintro e2 w2 ⟨rfl, hb2⟩
  clear l5
  have HR := Lib.hid (HR.out.keep hb2 HR.out.lt)
  have HB := Lib.hid (HB.out.trans (hb2.mono HB.out.size))
  clear hb2
  go_wp2_with fail
  refine (TE.out w2 .nilIface 0 HB.out (errV_zero rfl).symm ⟨by omega, by omega⟩).mono ?_
  rintro e3 w3 ⟨rfl, hb3⟩
  have HR := Lib.hid (HR.out.keep hb3 HR.out.lt)
  have HB := Lib.hid (HB.out.trans (hb3.mono HB.out.size))
  clear hb3
  go_wp2_with fail
  go_loopw [10, 11] (fun u v wr => ∃ i : Nat, ∃ f : Int, i ≤ cn ∧ u = .int .i64 f ∧ v = .int .i64 (i : Nat) ∧ ((f = 0 ∧ ∀ k, k < i → coinbad (cs.getD k 0) = false) ∨ (f = 1 ∧ cs.any coinbad = true)) ∧ wr = w3) (fun _ v _ => cn - (RowKit.intOf v).toNat)
  case atStart => exact ⟨0, 0, Nat.zero_le _, rfl, rfl, .inl ⟨rfl, fun k hk => absurd hk (Nat.not_lt_zero _)⟩, rfl⟩
  case round =>
    obtain ⟨i, f, hi, rfl, rfl, hf, hw⟩ := hrel
    rw [hw]
    have HF := Lib.hid hf
    by_cases hgo : i < cn ∧ f = 0
    · --{coin
      obtain ⟨hic, rfl⟩ := hgo
      have hic2 : (i : Int) < (cn : Int) := by omega
      obtain ⟨qb, qo, rfl, _, hqc⟩ := (HC.out w3 HB.out).cells i hic
      dsimp only at hqc
      have HOK : Hid (∀ k, k < i → coinbad (cs.getD k 0) = false) := by
        rcases HF.out with ⟨_, h⟩ | ⟨h, _⟩
        · exact h
        · exact absurd h (by decide)
      have HY : Hid (coinbad (cs.getD i 0) = true → cs.any coinbad = true) := fun h => any_yes (p := coinbad) (k := i) (by rw [HCN.out]; exact hic) h
      have HN2 : Hid (coinbad (cs.getD i 0) = false → ∀ k, k < i + 1 → coinbad (cs.getD k 0) = false) := fun h k hk => by
        by_cases hki : k = i
        · subst hki; exact h
        · exact HOK.out k (by omega)
      have HIC := Lib.hid hic
      clear hf hic
      generalize cs.getD i 0 = z at *
      by_cases h0 : z < 0
      · have HA := Lib.hid (HY.out (by unfold coinbad; exact decide_eq_true (by omega)))
        go_wp2_with fail
        go_roundw
        case rel => exact ⟨i + 1, 1, HIC.out, rfl, by go_num, .inr ⟨rfl, HA.out⟩, by first | rfl | trivial⟩
        case measure => have := HIC.out; simp [RowKit.intOf]; omega
      · by_cases h1 : 1 < z
        · have HA := Lib.hid (HY.out (by unfold coinbad; exact decide_eq_true (by omega)))
          go_wp2_with fail
          go_roundw
          case rel => exact ⟨i + 1, 1, HIC.out, rfl, by go_num, .inr ⟨rfl, HA.out⟩, by first | rfl | trivial⟩
          case measure => have := HIC.out; simp [RowKit.intOf]; omega
        · have HA := Lib.hid (HN2.out (by unfold coinbad; exact decide_eq_false (by omega)))
          go_wp2_with fail
          go_roundw
          case rel => exact ⟨i + 1, 0, HIC.out, rfl, by go_num, .inl ⟨rfl, HA.out⟩, by first | rfl | trivial⟩
          case measure => have := HIC.out; simp [RowKit.intOf]; omega
      --}
    · --{after
      have HP1 : Hid (P1 cs f) := by
        rcases HF.out with ⟨h1, h2⟩ | h
        · exact .inl ⟨h1, any_no fun k hk => h2 k (by rw [HCN.out] at hk; omega)⟩
        · exact .inr h
      clear hf HF
      by_cases hf1 : f = 1
      · subst hf1
        have HP2 : Hid (P2 cs m 1) := Lib.hid (.inr ⟨rfl, .inr (.inr (by rcases HP1.out with ⟨h, _⟩ | ⟨_, h⟩; exact absurd h (by decide); exact h))⟩)
        clear HP1 hgo hw
        by_cases hic : i < cn
        · have hic2 : (i : Int) < (cn : Int) := by omega
          have hr1 : rfault K W H zs cs m = 1 := by rw [rfault_P2 HGF.out HP2.out]; simp
          have HR1 : Hid (ev = errV 1) := Lib.hid (by rw [HEV.out, hr1])
          clear hr1
          have l5 := row_range HR.out
          go_wp2_with (refine wpList_load_mid rfl 24 _ rfl gb 0 rfl _ _ l5 Tryd.underlying24 rfl infoGas ?_)
          refine (KB.out w3 HB.out).mono ?_
          rintro e4 w4 ⟨rfl, hb4⟩
          clear l5
          have HR := Lib.hid (HR.out.keep hb4 HR.out.lt)
          have HB := Lib.hid (HB.out.trans (hb4.mono HB.out.size))
          clear hb4
          go_upto_region 15 with fail
          have hrx : Row (w4.alloc (.cells #[.int .i64 0, .int .i64 0, .int .i64 0, .slice none 0 0] 24)) w4.heap.size 24 (noGas) := row_alloc w4 _ _
          have hbx : Below w4.heap.size w4 (w4.alloc (.cells #[.int .i64 0, .int .i64 0, .int .i64 0, .slice none 0 0] 24)) := (Below.refl _ _).alloc (Nat.le_refl _) _
          have HR := Lib.hid (HR.out.keep hbx HR.out.lt)
          have HB := Lib.hid (HB.out.trans (hbx.mono HB.out.size))
          have HRA := Lib.hid hrx
          clear hbx hrx
          generalize w4.alloc (.cells #[.int .i64 0, .int .i64 0, .int .i64 0, .slice none 0 0] 24) = w5 at *
          obtain ⟨ba, hba⟩ : ∃ ba, ba = w4.heap.size := ⟨_, rfl⟩
          rw [← hba] at HRA ⊢
          have HBA : Hid (ba = w4.heap.size) := Lib.hid hba
          clear hba
          go_wp2_with fail
          refine (TE.out w5 ev 1 HB.out HR1.out ⟨by omega, by omega⟩).mono ?_
          rintro e6 w6 ⟨rfl, hb6⟩
          have HR := Lib.hid (HR.out.keep hb6 HR.out.lt)
          have HRA := Lib.hid (HRA.out.keep hb6 HRA.out.lt)
          have HB := Lib.hid (HB.out.trans (hb6.mono HB.out.size))
          clear hb6
          go_upto_region 17 with fail
          have hrx : Row (w6.alloc (.cells #[.int .i64 0, .int .i64 0, .int .i64 0, .slice none 0 0] 24)) w6.heap.size 24 (noGas) := row_alloc w6 _ _
          have hbx : Below w6.heap.size w6 (w6.alloc (.cells #[.int .i64 0, .int .i64 0, .int .i64 0, .slice none 0 0] 24)) := (Below.refl _ _).alloc (Nat.le_refl _) _
          have HR := Lib.hid (HR.out.keep hbx HR.out.lt)
          have HRA := Lib.hid (HRA.out.keep hbx HRA.out.lt)
          have HB := Lib.hid (HB.out.trans (hbx.mono HB.out.size))
          have HRBB := Lib.hid hrx
          clear hbx hrx
          generalize w6.alloc (.cells #[.int .i64 0, .int .i64 0, .int .i64 0, .slice none 0 0] 24) = w7 at *
          obtain ⟨bb, hbb⟩ : ∃ bb, bb = w6.heap.size := ⟨_, rfl⟩
          rw [← hbb] at HRBB ⊢
          have HBB : Hid (bb = w6.heap.size) := Lib.hid hbb
          clear hbb
          have l5 := row_range HRA.out
          have l6 := row_range HRBB.out
          go_wp2_with (first | (refine wpList_load_mid rfl 24 _ rfl ba 0 rfl _ _ l5 Tryd.underlying24 rfl infoGas ?_) | (refine wpList_load_mid rfl 24 _ rfl bb 0 rfl _ _ l6 Tryd.underlying24 rfl infoGas ?_))
          refine (GZ.out w7).mono ?_
          rintro e8 w8 ⟨rfl, hb8⟩
          clear l5 l6
          have HR := Lib.hid (HR.out.keep hb8 HR.out.lt)
          have HRA := Lib.hid (HRA.out.keep hb8 HRA.out.lt)
          have HRBB := Lib.hid (HRBB.out.keep hb8 HRBB.out.lt)
          have HB := Lib.hid (HB.out.trans (hb8.mono HB.out.size))
          clear hb8
          have l5 := row_range HR.out
          go_wp2_with (refine wpList_load_mid rfl 24 _ rfl gb 0 rfl _ _ l5 Tryd.underlying24 rfl infoGas ?_)
          refine (K3.out w8 HB.out).mono ?_
          rintro e9 w9 ⟨rfl, hb9⟩
          clear l5
          have HR := Lib.hid (HR.out.keep hb9 HR.out.lt)
          have HRA := Lib.hid (HRA.out.keep hb9 HRA.out.lt)
          have HRBB := Lib.hid (HRBB.out.keep hb9 HRBB.out.lt)
          have HB := Lib.hid (HB.out.trans (hb9.mono HB.out.size))
          clear hb9
          go_wp2_with fail
          refine (TE.out w9 .nilIface 0 HB.out (errV_zero rfl).symm ⟨by omega, by omega⟩).mono ?_
          rintro e10 w10 ⟨rfl, hb10⟩
          have HR := Lib.hid (HR.out.keep hb10 HR.out.lt)
          have HRA := Lib.hid (HRA.out.keep hb10 HRA.out.lt)
          have HRBB := Lib.hid (HRBB.out.keep hb10 HRBB.out.lt)
          have HB := Lib.hid (HB.out.trans (hb10.mono HB.out.size))
          clear hb10
          have l5 := row_range HR.out
          go_wp2_with (refine wpList_load_mid rfl 24 _ rfl gb 0 rfl _ _ l5 Tryd.underlying24 rfl infoGas ?_)
          refine (K4.out w10 HB.out).mono ?_
          rintro e11 w11 ⟨rfl, hb11⟩
          clear l5
          have HR := Lib.hid (HR.out.keep hb11 HR.out.lt)
          have HRA := Lib.hid (HRA.out.keep hb11 HRA.out.lt)
          have HRBB := Lib.hid (HRBB.out.keep hb11 HRBB.out.lt)
          have HB := Lib.hid (HB.out.trans (hb11.mono HB.out.size))
          clear hb11
          go_wp2_with fail
          refine (TE.out w11 .nilIface 0 HB.out (errV_zero rfl).symm ⟨by omega, by omega⟩).mono ?_
          rintro e12 w12 ⟨rfl, hb12⟩
          have HR := Lib.hid (HR.out.keep hb12 HR.out.lt)
          have HRA := Lib.hid (HRA.out.keep hb12 HRA.out.lt)
          have HRBB := Lib.hid (HRBB.out.keep hb12 HRBB.out.lt)
          have HB := Lib.hid (HB.out.trans (hb12.mono HB.out.size))
          clear hb12
          have l5 := row_range HR.out
          go_wp2_with (refine wpList_load_mid rfl 24 _ rfl gb 0 rfl _ _ l5 Tryd.underlying24 rfl infoGas ?_)
          refine (K5.out w12 HB.out).mono ?_
          rintro e13 w13 ⟨⟨tg, tc, rfl, _, hvt⟩, hb13⟩
          clear l5
          have HR := Lib.hid (HR.out.keep hb13 HR.out.lt)
          have HRA := Lib.hid (HRA.out.keep hb13 HRA.out.lt)
          have HRBB := Lib.hid (HRBB.out.keep hb13 HRBB.out.lt)
          have HB := Lib.hid (HB.out.trans (hb13.mono HB.out.size))
          clear hb13
          have HIT := Lib.hid (hvt.is HNM.out)
          clear hvt
          go_upto_region 25 with fail
          have hrx : Row (w13.alloc (.cells #[.int .i64 K, .int .i64 W, .int .i64 H, .slice (some ⟨tg, 0, none⟩) n tc] 24)) w13.heap.size 24 (boxG K W H (some ⟨tg, 0, none⟩) n tc) := row_alloc w13 _ _
          have hbx : Below w13.heap.size w13 (w13.alloc (.cells #[.int .i64 K, .int .i64 W, .int .i64 H, .slice (some ⟨tg, 0, none⟩) n tc] 24)) := (Below.refl _ _).alloc (Nat.le_refl _) _
          have HR := Lib.hid (HR.out.keep hbx HR.out.lt)
          have HRA := Lib.hid (HRA.out.keep hbx HRA.out.lt)
          have HRBB := Lib.hid (HRBB.out.keep hbx HRBB.out.lt)
          have HIT := Lib.hid (HIT.out.keep hbx)
          have HB := Lib.hid (HB.out.trans (hbx.mono HB.out.size))
          have HRT := Lib.hid hrx
          clear hbx hrx
          generalize w13.alloc (.cells #[.int .i64 K, .int .i64 W, .int .i64 H, .slice (some ⟨tg, 0, none⟩) n tc] 24) = w14 at *
          obtain ⟨bt, hbt⟩ : ∃ bt, bt = w13.heap.size := ⟨_, rfl⟩
          rw [← hbt] at HRT ⊢
          have HBT : Hid (bt = w13.heap.size) := Lib.hid hbt
          clear hbt
          go_wp2_with fail
          refine (TE.out w14 .nilIface 0 HB.out (errV_zero rfl).symm ⟨by omega, by omega⟩).mono ?_
          rintro e15 w15 ⟨rfl, hb15⟩
          have HR := Lib.hid (HR.out.keep hb15 HR.out.lt)
          have HRA := Lib.hid (HRA.out.keep hb15 HRA.out.lt)
          have HRBB := Lib.hid (HRBB.out.keep hb15 HRBB.out.lt)
          have HRT := Lib.hid (HRT.out.keep hb15 HRT.out.lt)
          have HIT := Lib.hid (HIT.out.keep hb15)
          have HB := Lib.hid (HB.out.trans (hb15.mono HB.out.size))
          clear hb15
          have l5 := row_range HR.out
          go_wp2_with (refine wpList_load_mid rfl 24 _ rfl gb 0 rfl _ _ l5 Tryd.underlying24 rfl infoGas ?_)
          refine (L3.out w15 HB.out).mono ?_
          rintro e16 w16 ⟨rfl, hb16⟩
          clear l5
          have HR := Lib.hid (HR.out.keep hb16 HR.out.lt)
          have HRA := Lib.hid (HRA.out.keep hb16 HRA.out.lt)
          have HRBB := Lib.hid (HRBB.out.keep hb16 HRBB.out.lt)
          have HRT := Lib.hid (HRT.out.keep hb16 HRT.out.lt)
          have HIT := Lib.hid (HIT.out.keep hb16)
          have HB := Lib.hid (HB.out.trans (hb16.mono HB.out.size))
          clear hb16
          have l5 := row_range HR.out
          go_wp2_with (refine wpList_load_mid rfl 24 _ rfl gb 0 rfl _ _ l5 Tryd.underlying24 rfl infoGas ?_)
          refine (L4.out w16 HB.out).mono ?_
          rintro e17 w17 ⟨rfl, hb17⟩
          clear l5
          have HR := Lib.hid (HR.out.keep hb17 HR.out.lt)
          have HRA := Lib.hid (HRA.out.keep hb17 HRA.out.lt)
          have HRBB := Lib.hid (HRBB.out.keep hb17 HRBB.out.lt)
          have HRT := Lib.hid (HRT.out.keep hb17 HRT.out.lt)
          have HIT := Lib.hid (HIT.out.keep hb17)
          have HB := Lib.hid (HB.out.trans (hb17.mono HB.out.size))
          clear hb17
          have l5 := row_range HR.out
          go_wp2_with (refine wpList_load_mid rfl 24 _ rfl gb 0 rfl _ _ l5 Tryd.underlying24 rfl infoGas ?_)
          refine (L5.out w17 HB.out).mono ?_
          rintro e18 w18 ⟨⟨wg, wc, rfl, _, hvw⟩, hb18⟩
          clear l5
          have HR := Lib.hid (HR.out.keep hb18 HR.out.lt)
          have HRA := Lib.hid (HRA.out.keep hb18 HRA.out.lt)
          have HRBB := Lib.hid (HRBB.out.keep hb18 HRBB.out.lt)
          have HRT := Lib.hid (HRT.out.keep hb18 HRT.out.lt)
          have HIT := Lib.hid (HIT.out.keep hb18)
          have HB := Lib.hid (HB.out.trans (hb18.mono HB.out.size))
          clear hb18
          have HIW := Lib.hid (hvw.is HNM.out)
          clear hvw
          go_upto_region 34 with fail
          have hrx : Row (w18.alloc (.cells #[.int .i64 K, .int .i64 W, .int .i64 H, .slice (some ⟨wg, 0, none⟩) n wc] 24)) w18.heap.size 24 (boxG K W H (some ⟨wg, 0, none⟩) n wc) := row_alloc w18 _ _
          have hbx : Below w18.heap.size w18 (w18.alloc (.cells #[.int .i64 K, .int .i64 W, .int .i64 H, .slice (some ⟨wg, 0, none⟩) n wc] 24)) := (Below.refl _ _).alloc (Nat.le_refl _) _
          have HR := Lib.hid (HR.out.keep hbx HR.out.lt)
          have HRA := Lib.hid (HRA.out.keep hbx HRA.out.lt)
          have HRBB := Lib.hid (HRBB.out.keep hbx HRBB.out.lt)
          have HRT := Lib.hid (HRT.out.keep hbx HRT.out.lt)
          have HIT := Lib.hid (HIT.out.keep hbx)
          have HIW := Lib.hid (HIW.out.keep hbx)
          have HB := Lib.hid (HB.out.trans (hbx.mono HB.out.size))
          have HRW := Lib.hid hrx
          clear hbx hrx
          generalize w18.alloc (.cells #[.int .i64 K, .int .i64 W, .int .i64 H, .slice (some ⟨wg, 0, none⟩) n wc] 24) = w19 at *
          obtain ⟨bw, hbw⟩ : ∃ bw, bw = w18.heap.size := ⟨_, rfl⟩
          rw [← hbw] at HRW ⊢
          have HBW : Hid (bw = w18.heap.size) := Lib.hid hbw
          clear hbw
          have l5 := row_range HRT.out
          have l6 := row_range HRW.out
          go_wp2_with (first | (refine wpList_load_mid rfl 24 _ rfl bt 0 rfl _ _ l5 Tryd.underlying24 rfl infoGas ?_) | (refine wpList_load_mid rfl 24 _ rfl bw 0 rfl _ _ l6 Tryd.underlying24 rfl infoGas ?_))
          refine (GS.out tg 0 tc wg 0 wc (lstN n T) w19 HIT.out HIW.out).mono ?_
          rintro e20 w20 ⟨rfl, hb20⟩
          clear l5 l6
          have HR := Lib.hid (HR.out.keep hb20 HR.out.lt)
          have HRA := Lib.hid (HRA.out.keep hb20 HRA.out.lt)
          have HRBB := Lib.hid (HRBB.out.keep hb20 HRBB.out.lt)
          have HRT := Lib.hid (HRT.out.keep hb20 HRT.out.lt)
          have HRW := Lib.hid (HRW.out.keep hb20 HRW.out.lt)
          have HIT := Lib.hid (HIT.out.keep hb20)
          have HIW := Lib.hid (HIW.out.keep hb20)
          have HB := Lib.hid (HB.out.trans (hb20.mono HB.out.size))
          clear hb20
          go_wp2_with fail
          go_ret
          exact ⟨by simp, HB.out⟩
        · have hic2 : ¬ (i : Int) < (cn : Int) := by omega
          have hr1 : rfault K W H zs cs m = 1 := by rw [rfault_P2 HGF.out HP2.out]; simp
          have HR1 : Hid (ev = errV 1) := Lib.hid (by rw [HEV.out, hr1])
          clear hr1
          have l5 := row_range HR.out
          go_wp2_with (refine wpList_load_mid rfl 24 _ rfl gb 0 rfl _ _ l5 Tryd.underlying24 rfl infoGas ?_)
          refine (KB.out w3 HB.out).mono ?_
          rintro e4 w4 ⟨rfl, hb4⟩
          clear l5
          have HR := Lib.hid (HR.out.keep hb4 HR.out.lt)
          have HB := Lib.hid (HB.out.trans (hb4.mono HB.out.size))
          clear hb4
          go_upto_region 15 with fail
          have hrx : Row (w4.alloc (.cells #[.int .i64 0, .int .i64 0, .int .i64 0, .slice none 0 0] 24)) w4.heap.size 24 (noGas) := row_alloc w4 _ _
          have hbx : Below w4.heap.size w4 (w4.alloc (.cells #[.int .i64 0, .int .i64 0, .int .i64 0, .slice none 0 0] 24)) := (Below.refl _ _).alloc (Nat.le_refl _) _
          have HR := Lib.hid (HR.out.keep hbx HR.out.lt)
          have HB := Lib.hid (HB.out.trans (hbx.mono HB.out.size))
          have HRA := Lib.hid hrx
          clear hbx hrx
          generalize w4.alloc (.cells #[.int .i64 0, .int .i64 0, .int .i64 0, .slice none 0 0] 24) = w5 at *
          obtain ⟨ba, hba⟩ : ∃ ba, ba = w4.heap.size := ⟨_, rfl⟩
          rw [← hba] at HRA ⊢
          have HBA : Hid (ba = w4.heap.size) := Lib.hid hba
          clear hba
          go_wp2_with fail
          refine (TE.out w5 ev 1 HB.out HR1.out ⟨by omega, by omega⟩).mono ?_
          rintro e6 w6 ⟨rfl, hb6⟩
          have HR := Lib.hid (HR.out.keep hb6 HR.out.lt)
          have HRA := Lib.hid (HRA.out.keep hb6 HRA.out.lt)
          have HB := Lib.hid (HB.out.trans (hb6.mono HB.out.size))
          clear hb6
          go_upto_region 17 with fail
          have hrx : Row (w6.alloc (.cells #[.int .i64 0, .int .i64 0, .int .i64 0, .slice none 0 0] 24)) w6.heap.size 24 (noGas) := row_alloc w6 _ _
          have hbx : Below w6.heap.size w6 (w6.alloc (.cells #[.int .i64 0, .int .i64 0, .int .i64 0, .slice none 0 0] 24)) := (Below.refl _ _).alloc (Nat.le_refl _) _
          have HR := Lib.hid (HR.out.keep hbx HR.out.lt)
          have HRA := Lib.hid (HRA.out.keep hbx HRA.out.lt)
          have HB := Lib.hid (HB.out.trans (hbx.mono HB.out.size))
          have HRBB := Lib.hid hrx
          clear hbx hrx
          generalize w6.alloc (.cells #[.int .i64 0, .int .i64 0, .int .i64 0, .slice none 0 0] 24) = w7 at *
          obtain ⟨bb, hbb⟩ : ∃ bb, bb = w6.heap.size := ⟨_, rfl⟩
          rw [← hbb] at HRBB ⊢
          have HBB : Hid (bb = w6.heap.size) := Lib.hid hbb
          clear hbb
          have l5 := row_range HRA.out
          have l6 := row_range HRBB.out
          go_wp2_with (first | (refine wpList_load_mid rfl 24 _ rfl ba 0 rfl _ _ l5 Tryd.underlying24 rfl infoGas ?_) | (refine wpList_load_mid rfl 24 _ rfl bb 0 rfl _ _ l6 Tryd.underlying24 rfl infoGas ?_))
          refine (GZ.out w7).mono ?_
          rintro e8 w8 ⟨rfl, hb8⟩
          clear l5 l6
          have HR := Lib.hid (HR.out.keep hb8 HR.out.lt)
          have HRA := Lib.hid (HRA.out.keep hb8 HRA.out.lt)
          have HRBB := Lib.hid (HRBB.out.keep hb8 HRBB.out.lt)
          have HB := Lib.hid (HB.out.trans (hb8.mono HB.out.size))
          clear hb8
          have l5 := row_range HR.out
          go_wp2_with (refine wpList_load_mid rfl 24 _ rfl gb 0 rfl _ _ l5 Tryd.underlying24 rfl infoGas ?_)
          refine (K3.out w8 HB.out).mono ?_
          rintro e9 w9 ⟨rfl, hb9⟩
          clear l5
          have HR := Lib.hid (HR.out.keep hb9 HR.out.lt)
          have HRA := Lib.hid (HRA.out.keep hb9 HRA.out.lt)
          have HRBB := Lib.hid (HRBB.out.keep hb9 HRBB.out.lt)
          have HB := Lib.hid (HB.out.trans (hb9.mono HB.out.size))
          clear hb9
          go_wp2_with fail
          refine (TE.out w9 .nilIface 0 HB.out (errV_zero rfl).symm ⟨by omega, by omega⟩).mono ?_
          rintro e10 w10 ⟨rfl, hb10⟩
          have HR := Lib.hid (HR.out.keep hb10 HR.out.lt)
          have HRA := Lib.hid (HRA.out.keep hb10 HRA.out.lt)
          have HRBB := Lib.hid (HRBB.out.keep hb10 HRBB.out.lt)
          have HB := Lib.hid (HB.out.trans (hb10.mono HB.out.size))
          clear hb10
          have l5 := row_range HR.out
          go_wp2_with (refine wpList_load_mid rfl 24 _ rfl gb 0 rfl _ _ l5 Tryd.underlying24 rfl infoGas ?_)
          refine (K4.out w10 HB.out).mono ?_
          rintro e11 w11 ⟨rfl, hb11⟩
          clear l5
          have HR := Lib.hid (HR.out.keep hb11 HR.out.lt)
          have HRA := Lib.hid (HRA.out.keep hb11 HRA.out.lt)
          have HRBB := Lib.hid (HRBB.out.keep hb11 HRBB.out.lt)
          have HB := Lib.hid (HB.out.trans (hb11.mono HB.out.size))
          clear hb11
          go_wp2_with fail
          refine (TE.out w11 .nilIface 0 HB.out (errV_zero rfl).symm ⟨by omega, by omega⟩).mono ?_
          rintro e12 w12 ⟨rfl, hb12⟩
          have HR := Lib.hid (HR.out.keep hb12 HR.out.lt)
          have HRA := Lib.hid (HRA.out.keep hb12 HRA.out.lt)
          have HRBB := Lib.hid (HRBB.out.keep hb12 HRBB.out.lt)
          have HB := Lib.hid (HB.out.trans (hb12.mono HB.out.size))
          clear hb12
          have l5 := row_range HR.out
          go_wp2_with (refine wpList_load_mid rfl 24 _ rfl gb 0 rfl _ _ l5 Tryd.underlying24 rfl infoGas ?_)
          refine (K5.out w12 HB.out).mono ?_
          rintro e13 w13 ⟨⟨tg, tc, rfl, _, hvt⟩, hb13⟩
          clear l5
          have HR := Lib.hid (HR.out.keep hb13 HR.out.lt)
          have HRA := Lib.hid (HRA.out.keep hb13 HRA.out.lt)
          have HRBB := Lib.hid (HRBB.out.keep hb13 HRBB.out.lt)
          have HB := Lib.hid (HB.out.trans (hb13.mono HB.out.size))
          clear hb13
          have HIT := Lib.hid (hvt.is HNM.out)
          clear hvt
          go_upto_region 25 with fail
          have hrx : Row (w13.alloc (.cells #[.int .i64 K, .int .i64 W, .int .i64 H, .slice (some ⟨tg, 0, none⟩) n tc] 24)) w13.heap.size 24 (boxG K W H (some ⟨tg, 0, none⟩) n tc) := row_alloc w13 _ _
          have hbx : Below w13.heap.size w13 (w13.alloc (.cells #[.int .i64 K, .int .i64 W, .int .i64 H, .slice (some ⟨tg, 0, none⟩) n tc] 24)) := (Below.refl _ _).alloc (Nat.le_refl _) _
          have HR := Lib.hid (HR.out.keep hbx HR.out.lt)
          have HRA := Lib.hid (HRA.out.keep hbx HRA.out.lt)
          have HRBB := Lib.hid (HRBB.out.keep hbx HRBB.out.lt)
          have HIT := Lib.hid (HIT.out.keep hbx)
          have HB := Lib.hid (HB.out.trans (hbx.mono HB.out.size))
          have HRT := Lib.hid hrx
          clear hbx hrx
          generalize w13.alloc (.cells #[.int .i64 K, .int .i64 W, .int .i64 H, .slice (some ⟨tg, 0, none⟩) n tc] 24) = w14 at *
          obtain ⟨bt, hbt⟩ : ∃ bt, bt = w13.heap.size := ⟨_, rfl⟩
          rw [← hbt] at HRT ⊢
          have HBT : Hid (bt = w13.heap.size) := Lib.hid hbt
          clear hbt
          go_wp2_with fail
          refine (TE.out w14 .nilIface 0 HB.out (errV_zero rfl).symm ⟨by omega, by omega⟩).mono ?_
          rintro e15 w15 ⟨rfl, hb15⟩
          have HR := Lib.hid (HR.out.keep hb15 HR.out.lt)
          have HRA := Lib.hid (HRA.out.keep hb15 HRA.out.lt)
          have HRBB := Lib.hid (HRBB.out.keep hb15 HRBB.out.lt)
          have HRT := Lib.hid (HRT.out.keep hb15 HRT.out.lt)
          have HIT := Lib.hid (HIT.out.keep hb15)
          have HB := Lib.hid (HB.out.trans (hb15.mono HB.out.size))
          clear hb15
          have l5 := row_range HR.out
          go_wp2_with (refine wpList_load_mid rfl 24 _ rfl gb 0 rfl _ _ l5 Tryd.underlying24 rfl infoGas ?_)
          refine (L3.out w15 HB.out).mono ?_
          rintro e16 w16 ⟨rfl, hb16⟩
          clear l5
          have HR := Lib.hid (HR.out.keep hb16 HR.out.lt)
          have HRA := Lib.hid (HRA.out.keep hb16 HRA.out.lt)
          have HRBB := Lib.hid (HRBB.out.keep hb16 HRBB.out.lt)
          have HRT := Lib.hid (HRT.out.keep hb16 HRT.out.lt)
          have HIT := Lib.hid (HIT.out.keep hb16)
          have HB := Lib.hid (HB.out.trans (hb16.mono HB.out.size))
          clear hb16
          have l5 := row_range HR.out
          go_wp2_with (refine wpList_load_mid rfl 24 _ rfl gb 0 rfl _ _ l5 Tryd.underlying24 rfl infoGas ?_)
          refine (L4.out w16 HB.out).mono ?_
          rintro e17 w17 ⟨rfl, hb17⟩
          clear l5
          have HR := Lib.hid (HR.out.keep hb17 HR.out.lt)
          have HRA := Lib.hid (HRA.out.keep hb17 HRA.out.lt)
          have HRBB := Lib.hid (HRBB.out.keep hb17 HRBB.out.lt)
          have HRT := Lib.hid (HRT.out.keep hb17 HRT.out.lt)
          have HIT := Lib.hid (HIT.out.keep hb17)
          have HB := Lib.hid (HB.out.trans (hb17.mono HB.out.size))
          clear hb17
          have l5 := row_range HR.out
          go_wp2_with (refine wpList_load_mid rfl 24 _ rfl gb 0 rfl _ _ l5 Tryd.underlying24 rfl infoGas ?_)
          refine (L5.out w17 HB.out).mono ?_
          rintro e18 w18 ⟨⟨wg, wc, rfl, _, hvw⟩, hb18⟩
          clear l5
          have HR := Lib.hid (HR.out.keep hb18 HR.out.lt)
          have HRA := Lib.hid (HRA.out.keep hb18 HRA.out.lt)
          have HRBB := Lib.hid (HRBB.out.keep hb18 HRBB.out.lt)
          have HRT := Lib.hid (HRT.out.keep hb18 HRT.out.lt)
          have HIT := Lib.hid (HIT.out.keep hb18)
          have HB := Lib.hid (HB.out.trans (hb18.mono HB.out.size))
          clear hb18
          have HIW := Lib.hid (hvw.is HNM.out)
          clear hvw
          go_upto_region 34 with fail
          have hrx : Row (w18.alloc (.cells #[.int .i64 K, .int .i64 W, .int .i64 H, .slice (some ⟨wg, 0, none⟩) n wc] 24)) w18.heap.size 24 (boxG K W H (some ⟨wg, 0, none⟩) n wc) := row_alloc w18 _ _
          have hbx : Below w18.heap.size w18 (w18.alloc (.cells #[.int .i64 K, .int .i64 W, .int .i64 H, .slice (some ⟨wg, 0, none⟩) n wc] 24)) := (Below.refl _ _).alloc (Nat.le_refl _) _
          have HR := Lib.hid (HR.out.keep hbx HR.out.lt)
          have HRA := Lib.hid (HRA.out.keep hbx HRA.out.lt)
          have HRBB := Lib.hid (HRBB.out.keep hbx HRBB.out.lt)
          have HRT := Lib.hid (HRT.out.keep hbx HRT.out.lt)
          have HIT := Lib.hid (HIT.out.keep hbx)
          have HIW := Lib.hid (HIW.out.keep hbx)
          have HB := Lib.hid (HB.out.trans (hbx.mono HB.out.size))
          have HRW := Lib.hid hrx
          clear hbx hrx
          generalize w18.alloc (.cells #[.int .i64 K, .int .i64 W, .int .i64 H, .slice (some ⟨wg, 0, none⟩) n wc] 24) = w19 at *
          obtain ⟨bw, hbw⟩ : ∃ bw, bw = w18.heap.size := ⟨_, rfl⟩
          rw [← hbw] at HRW ⊢
          have HBW : Hid (bw = w18.heap.size) := Lib.hid hbw
          clear hbw
          have l5 := row_range HRT.out
          have l6 := row_range HRW.out
          go_wp2_with (first | (refine wpList_load_mid rfl 24 _ rfl bt 0 rfl _ _ l5 Tryd.underlying24 rfl infoGas ?_) | (refine wpList_load_mid rfl 24 _ rfl bw 0 rfl _ _ l6 Tryd.underlying24 rfl infoGas ?_))
          refine (GS.out tg 0 tc wg 0 wc (lstN n T) w19 HIT.out HIW.out).mono ?_
          rintro e20 w20 ⟨rfl, hb20⟩
          clear l5 l6
          have HR := Lib.hid (HR.out.keep hb20 HR.out.lt)
          have HRA := Lib.hid (HRA.out.keep hb20 HRA.out.lt)
          have HRBB := Lib.hid (HRBB.out.keep hb20 HRBB.out.lt)
          have HRT := Lib.hid (HRT.out.keep hb20 HRT.out.lt)
          have HRW := Lib.hid (HRW.out.keep hb20 HRW.out.lt)
          have HIT := Lib.hid (HIT.out.keep hb20)
          have HIW := Lib.hid (HIW.out.keep hb20)
          have HB := Lib.hid (HB.out.trans (hb20.mono HB.out.size))
          clear hb20
          go_wp2_with fail
          go_ret
          exact ⟨by simp, HB.out⟩
      · obtain rfl : f = 0 := by rcases HP1.out.range with h | h; exact h; exact absurd h hf1
        have hic2 : ¬ (i : Int) < (cn : Int) := by omega
        have HP3 : Hid (cs.any coinbad = false) := Lib.hid (by rcases HP1.out with ⟨_, h⟩ | ⟨h, _⟩; exact h; exact absurd h (by decide))
        clear HP1 hgo hw
        by_cases hm0 : m < 0
        · have HP2 : Hid (P2 cs m 1) := Lib.hid (.inr ⟨rfl, .inl hm0⟩)
          have hr1 : rfault K W H zs cs m = 1 := by rw [rfault_P2 HGF.out HP2.out]; simp
          have HR1 : Hid (ev = errV 1) := Lib.hid (by rw [HEV.out, hr1])
          clear hr1
          have l5 := row_range HR.out
          go_wp2_with (refine wpList_load_mid rfl 24 _ rfl gb 0 rfl _ _ l5 Tryd.underlying24 rfl infoGas ?_)
          refine (KB.out w3 HB.out).mono ?_
          rintro e4 w4 ⟨rfl, hb4⟩
          clear l5
          have HR := Lib.hid (HR.out.keep hb4 HR.out.lt)
          have HB := Lib.hid (HB.out.trans (hb4.mono HB.out.size))
          clear hb4
          go_upto_region 15 with fail
          have hrx : Row (w4.alloc (.cells #[.int .i64 0, .int .i64 0, .int .i64 0, .slice none 0 0] 24)) w4.heap.size 24 (noGas) := row_alloc w4 _ _
          have hbx : Below w4.heap.size w4 (w4.alloc (.cells #[.int .i64 0, .int .i64 0, .int .i64 0, .slice none 0 0] 24)) := (Below.refl _ _).alloc (Nat.le_refl _) _
          have HR := Lib.hid (HR.out.keep hbx HR.out.lt)
          have HB := Lib.hid (HB.out.trans (hbx.mono HB.out.size))
          have HRA := Lib.hid hrx
          clear hbx hrx
          generalize w4.alloc (.cells #[.int .i64 0, .int .i64 0, .int .i64 0, .slice none 0 0] 24) = w5 at *
          obtain ⟨ba, hba⟩ : ∃ ba, ba = w4.heap.size := ⟨_, rfl⟩
          rw [← hba] at HRA ⊢
          have HBA : Hid (ba = w4.heap.size) := Lib.hid hba
          clear hba
          go_wp2_with fail
          refine (TE.out w5 ev 1 HB.out HR1.out ⟨by omega, by omega⟩).mono ?_
          rintro e6 w6 ⟨rfl, hb6⟩
          have HR := Lib.hid (HR.out.keep hb6 HR.out.lt)
          have HRA := Lib.hid (HRA.out.keep hb6 HRA.out.lt)
          have HB := Lib.hid (HB.out.trans (hb6.mono HB.out.size))
          clear hb6
          go_upto_region 17 with fail
          have hrx : Row (w6.alloc (.cells #[.int .i64 0, .int .i64 0, .int .i64 0, .slice none 0 0] 24)) w6.heap.size 24 (noGas) := row_alloc w6 _ _
          have hbx : Below w6.heap.size w6 (w6.alloc (.cells #[.int .i64 0, .int .i64 0, .int .i64 0, .slice none 0 0] 24)) := (Below.refl _ _).alloc (Nat.le_refl _) _
          have HR := Lib.hid (HR.out.keep hbx HR.out.lt)
          have HRA := Lib.hid (HRA.out.keep hbx HRA.out.lt)
          have HB := Lib.hid (HB.out.trans (hbx.mono HB.out.size))
          have HRBB := Lib.hid hrx
          clear hbx hrx
          generalize w6.alloc (.cells #[.int .i64 0, .int .i64 0, .int .i64 0, .slice none 0 0] 24) = w7 at *
          obtain ⟨bb, hbb⟩ : ∃ bb, bb = w6.heap.size := ⟨_, rfl⟩
          rw [← hbb] at HRBB ⊢
          have HBB : Hid (bb = w6.heap.size) := Lib.hid hbb
          clear hbb
          have l5 := row_range HRA.out
          have l6 := row_range HRBB.out
          go_wp2_with (first | (refine wpList_load_mid rfl 24 _ rfl ba 0 rfl _ _ l5 Tryd.underlying24 rfl infoGas ?_) | (refine wpList_load_mid rfl 24 _ rfl bb 0 rfl _ _ l6 Tryd.underlying24 rfl infoGas ?_))
          refine (GZ.out w7).mono ?_
          rintro e8 w8 ⟨rfl, hb8⟩
          clear l5 l6
          have HR := Lib.hid (HR.out.keep hb8 HR.out.lt)
          have HRA := Lib.hid (HRA.out.keep hb8 HRA.out.lt)
          have HRBB := Lib.hid (HRBB.out.keep hb8 HRBB.out.lt)
          have HB := Lib.hid (HB.out.trans (hb8.mono HB.out.size))
          clear hb8
          have l5 := row_range HR.out
          go_wp2_with (refine wpList_load_mid rfl 24 _ rfl gb 0 rfl _ _ l5 Tryd.underlying24 rfl infoGas ?_)
          refine (K3.out w8 HB.out).mono ?_
          rintro e9 w9 ⟨rfl, hb9⟩
          clear l5
          have HR := Lib.hid (HR.out.keep hb9 HR.out.lt)
          have HRA := Lib.hid (HRA.out.keep hb9 HRA.out.lt)
          have HRBB := Lib.hid (HRBB.out.keep hb9 HRBB.out.lt)
          have HB := Lib.hid (HB.out.trans (hb9.mono HB.out.size))
          clear hb9
          go_wp2_with fail
          refine (TE.out w9 .nilIface 0 HB.out (errV_zero rfl).symm ⟨by omega, by omega⟩).mono ?_
          rintro e10 w10 ⟨rfl, hb10⟩
          have HR := Lib.hid (HR.out.keep hb10 HR.out.lt)
          have HRA := Lib.hid (HRA.out.keep hb10 HRA.out.lt)
          have HRBB := Lib.hid (HRBB.out.keep hb10 HRBB.out.lt)
          have HB := Lib.hid (HB.out.trans (hb10.mono HB.out.size))
          clear hb10
          have l5 := row_range HR.out
          go_wp2_with (refine wpList_load_mid rfl 24 _ rfl gb 0 rfl _ _ l5 Tryd.underlying24 rfl infoGas ?_)
          refine (K4.out w10 HB.out).mono ?_
          rintro e11 w11 ⟨rfl, hb11⟩
          clear l5
          have HR := Lib.hid (HR.out.keep hb11 HR.out.lt)
          have HRA := Lib.hid (HRA.out.keep hb11 HRA.out.lt)
          have HRBB := Lib.hid (HRBB.out.keep hb11 HRBB.out.lt)
          have HB := Lib.hid (HB.out.trans (hb11.mono HB.out.size))
          clear hb11
          go_wp2_with fail
          refine (TE.out w11 .nilIface 0 HB.out (errV_zero rfl).symm ⟨by omega, by omega⟩).mono ?_
          rintro e12 w12 ⟨rfl, hb12⟩
          have HR := Lib.hid (HR.out.keep hb12 HR.out.lt)
          have HRA := Lib.hid (HRA.out.keep hb12 HRA.out.lt)
          have HRBB := Lib.hid (HRBB.out.keep hb12 HRBB.out.lt)
          have HB := Lib.hid (HB.out.trans (hb12.mono HB.out.size))
          clear hb12
          have l5 := row_range HR.out
          go_wp2_with (refine wpList_load_mid rfl 24 _ rfl gb 0 rfl _ _ l5 Tryd.underlying24 rfl infoGas ?_)
          refine (K5.out w12 HB.out).mono ?_
          rintro e13 w13 ⟨⟨tg, tc, rfl, _, hvt⟩, hb13⟩
          clear l5
          have HR := Lib.hid (HR.out.keep hb13 HR.out.lt)
          have HRA := Lib.hid (HRA.out.keep hb13 HRA.out.lt)
          have HRBB := Lib.hid (HRBB.out.keep hb13 HRBB.out.lt)
          have HB := Lib.hid (HB.out.trans (hb13.mono HB.out.size))
          clear hb13
          have HIT := Lib.hid (hvt.is HNM.out)
          clear hvt
          go_upto_region 25 with fail
          have hrx : Row (w13.alloc (.cells #[.int .i64 K, .int .i64 W, .int .i64 H, .slice (some ⟨tg, 0, none⟩) n tc] 24)) w13.heap.size 24 (boxG K W H (some ⟨tg, 0, none⟩) n tc) := row_alloc w13 _ _
          have hbx : Below w13.heap.size w13 (w13.alloc (.cells #[.int .i64 K, .int .i64 W, .int .i64 H, .slice (some ⟨tg, 0, none⟩) n tc] 24)) := (Below.refl _ _).alloc (Nat.le_refl _) _
          have HR := Lib.hid (HR.out.keep hbx HR.out.lt)
          have HRA := Lib.hid (HRA.out.keep hbx HRA.out.lt)
          have HRBB := Lib.hid (HRBB.out.keep hbx HRBB.out.lt)
          have HIT := Lib.hid (HIT.out.keep hbx)
          have HB := Lib.hid (HB.out.trans (hbx.mono HB.out.size))
          have HRT := Lib.hid hrx
          clear hbx hrx
          generalize w13.alloc (.cells #[.int .i64 K, .int .i64 W, .int .i64 H, .slice (some ⟨tg, 0, none⟩) n tc] 24) = w14 at *
          obtain ⟨bt, hbt⟩ : ∃ bt, bt = w13.heap.size := ⟨_, rfl⟩
          rw [← hbt] at HRT ⊢
          have HBT : Hid (bt = w13.heap.size) := Lib.hid hbt
          clear hbt
          go_wp2_with fail
          refine (TE.out w14 .nilIface 0 HB.out (errV_zero rfl).symm ⟨by omega, by omega⟩).mono ?_
          rintro e15 w15 ⟨rfl, hb15⟩
          have HR := Lib.hid (HR.out.keep hb15 HR.out.lt)
          have HRA := Lib.hid (HRA.out.keep hb15 HRA.out.lt)
          have HRBB := Lib.hid (HRBB.out.keep hb15 HRBB.out.lt)
          have HRT := Lib.hid (HRT.out.keep hb15 HRT.out.lt)
          have HIT := Lib.hid (HIT.out.keep hb15)
          have HB := Lib.hid (HB.out.trans (hb15.mono HB.out.size))
          clear hb15
          have l5 := row_range HR.out
          go_wp2_with (refine wpList_load_mid rfl 24 _ rfl gb 0 rfl _ _ l5 Tryd.underlying24 rfl infoGas ?_)
          refine (L3.out w15 HB.out).mono ?_
          rintro e16 w16 ⟨rfl, hb16⟩
          clear l5
          have HR := Lib.hid (HR.out.keep hb16 HR.out.lt)
          have HRA := Lib.hid (HRA.out.keep hb16 HRA.out.lt)
          have HRBB := Lib.hid (HRBB.out.keep hb16 HRBB.out.lt)
          have HRT := Lib.hid (HRT.out.keep hb16 HRT.out.lt)
          have HIT := Lib.hid (HIT.out.keep hb16)
          have HB := Lib.hid (HB.out.trans (hb16.mono HB.out.size))
          clear hb16
          have l5 := row_range HR.out
          go_wp2_with (refine wpList_load_mid rfl 24 _ rfl gb 0 rfl _ _ l5 Tryd.underlying24 rfl infoGas ?_)
          refine (L4.out w16 HB.out).mono ?_
          rintro e17 w17 ⟨rfl, hb17⟩
          clear l5
          have HR := Lib.hid (HR.out.keep hb17 HR.out.lt)
          have HRA := Lib.hid (HRA.out.keep hb17 HRA.out.lt)
          have HRBB := Lib.hid (HRBB.out.keep hb17 HRBB.out.lt)
          have HRT := Lib.hid (HRT.out.keep hb17 HRT.out.lt)
          have HIT := Lib.hid (HIT.out.keep hb17)
          have HB := Lib.hid (HB.out.trans (hb17.mono HB.out.size))
          clear hb17
          have l5 := row_range HR.out
          go_wp2_with (refine wpList_load_mid rfl 24 _ rfl gb 0 rfl _ _ l5 Tryd.underlying24 rfl infoGas ?_)
          refine (L5.out w17 HB.out).mono ?_
          rintro e18 w18 ⟨⟨wg, wc, rfl, _, hvw⟩, hb18⟩
          clear l5
          have HR := Lib.hid (HR.out.keep hb18 HR.out.lt)
          have HRA := Lib.hid (HRA.out.keep hb18 HRA.out.lt)
          have HRBB := Lib.hid (HRBB.out.keep hb18 HRBB.out.lt)
          have HRT := Lib.hid (HRT.out.keep hb18 HRT.out.lt)
          have HIT := Lib.hid (HIT.out.keep hb18)
          have HB := Lib.hid (HB.out.trans (hb18.mono HB.out.size))
          clear hb18
          have HIW := Lib.hid (hvw.is HNM.out)
          clear hvw
          go_upto_region 34 with fail
          have hrx : Row (w18.alloc (.cells #[.int .i64 K, .int .i64 W, .int .i64 H, .slice (some ⟨wg, 0, none⟩) n wc] 24)) w18.heap.size 24 (boxG K W H (some ⟨wg, 0, none⟩) n wc) := row_alloc w18 _ _
          have hbx : Below w18.heap.size w18 (w18.alloc (.cells #[.int .i64 K, .int .i64 W, .int .i64 H, .slice (some ⟨wg, 0, none⟩) n wc] 24)) := (Below.refl _ _).alloc (Nat.le_refl _) _
          have HR := Lib.hid (HR.out.keep hbx HR.out.lt)
          have HRA := Lib.hid (HRA.out.keep hbx HRA.out.lt)
          have HRBB := Lib.hid (HRBB.out.keep hbx HRBB.out.lt)
          have HRT := Lib.hid (HRT.out.keep hbx HRT.out.lt)
          have HIT := Lib.hid (HIT.out.keep hbx)
          have HIW := Lib.hid (HIW.out.keep hbx)
          have HB := Lib.hid (HB.out.trans (hbx.mono HB.out.size))
          have HRW := Lib.hid hrx
          clear hbx hrx
          generalize w18.alloc (.cells #[.int .i64 K, .int .i64 W, .int .i64 H, .slice (some ⟨wg, 0, none⟩) n wc] 24) = w19 at *
          obtain ⟨bw, hbw⟩ : ∃ bw, bw = w18.heap.size := ⟨_, rfl⟩
          rw [← hbw] at HRW ⊢
          have HBW : Hid (bw = w18.heap.size) := Lib.hid hbw
          clear hbw
          have l5 := row_range HRT.out
          have l6 := row_range HRW.out
          go_wp2_with (first | (refine wpList_load_mid rfl 24 _ rfl bt 0 rfl _ _ l5 Tryd.underlying24 rfl infoGas ?_) | (refine wpList_load_mid rfl 24 _ rfl bw 0 rfl _ _ l6 Tryd.underlying24 rfl infoGas ?_))
          refine (GS.out tg 0 tc wg 0 wc (lstN n T) w19 HIT.out HIW.out).mono ?_
          rintro e20 w20 ⟨rfl, hb20⟩
          clear l5 l6
          have HR := Lib.hid (HR.out.keep hb20 HR.out.lt)
          have HRA := Lib.hid (HRA.out.keep hb20 HRA.out.lt)
          have HRBB := Lib.hid (HRBB.out.keep hb20 HRBB.out.lt)
          have HRT := Lib.hid (HRT.out.keep hb20 HRT.out.lt)
          have HRW := Lib.hid (HRW.out.keep hb20 HRW.out.lt)
          have HIT := Lib.hid (HIT.out.keep hb20)
          have HIW := Lib.hid (HIW.out.keep hb20)
          have HB := Lib.hid (HB.out.trans (hb20.mono HB.out.size))
          clear hb20
          go_wp2_with fail
          go_ret
          exact ⟨by simp, HB.out⟩
        · by_cases hm1 : 100000 < m
          · have HP2 : Hid (P2 cs m 1) := Lib.hid (.inr ⟨rfl, .inr (.inl hm1)⟩)
            have hr1 : rfault K W H zs cs m = 1 := by rw [rfault_P2 HGF.out HP2.out]; simp
            have HR1 : Hid (ev = errV 1) := Lib.hid (by rw [HEV.out, hr1])
            clear hr1
            have l5 := row_range HR.out
            go_wp2_with (refine wpList_load_mid rfl 24 _ rfl gb 0 rfl _ _ l5 Tryd.underlying24 rfl infoGas ?_)
            refine (KB.out w3 HB.out).mono ?_
            rintro e4 w4 ⟨rfl, hb4⟩
            clear l5
            have HR := Lib.hid (HR.out.keep hb4 HR.out.lt)
            have HB := Lib.hid (HB.out.trans (hb4.mono HB.out.size))
            clear hb4
            go_upto_region 15 with fail
            have hrx : Row (w4.alloc (.cells #[.int .i64 0, .int .i64 0, .int .i64 0, .slice none 0 0] 24)) w4.heap.size 24 (noGas) := row_alloc w4 _ _
            have hbx : Below w4.heap.size w4 (w4.alloc (.cells #[.int .i64 0, .int .i64 0, .int .i64 0, .slice none 0 0] 24)) := (Below.refl _ _).alloc (Nat.le_refl _) _
            have HR := Lib.hid (HR.out.keep hbx HR.out.lt)
            have HB := Lib.hid (HB.out.trans (hbx.mono HB.out.size))
            have HRA := Lib.hid hrx
            clear hbx hrx
            generalize w4.alloc (.cells #[.int .i64 0, .int .i64 0, .int .i64 0, .slice none 0 0] 24) = w5 at *
            obtain ⟨ba, hba⟩ : ∃ ba, ba = w4.heap.size := ⟨_, rfl⟩
            rw [← hba] at HRA ⊢
            have HBA : Hid (ba = w4.heap.size) := Lib.hid hba
            clear hba
            go_wp2_with fail
            refine (TE.out w5 ev 1 HB.out HR1.out ⟨by omega, by omega⟩).mono ?_
            rintro e6 w6 ⟨rfl, hb6⟩
            have HR := Lib.hid (HR.out.keep hb6 HR.out.lt)
            have HRA := Lib.hid (HRA.out.keep hb6 HRA.out.lt)
            have HB := Lib.hid (HB.out.trans (hb6.mono HB.out.size))
            clear hb6
            go_upto_region 17 with fail
            have hrx : Row (w6.alloc (.cells #[.int .i64 0, .int .i64 0, .int .i64 0, .slice none 0 0] 24)) w6.heap.size 24 (noGas) := row_alloc w6 _ _
            have hbx : Below w6.heap.size w6 (w6.alloc (.cells #[.int .i64 0, .int .i64 0, .int .i64 0, .slice none 0 0] 24)) := (Below.refl _ _).alloc (Nat.le_refl _) _
            have HR := Lib.hid (HR.out.keep hbx HR.out.lt)
            have HRA := Lib.hid (HRA.out.keep hbx HRA.out.lt)
            have HB := Lib.hid (HB.out.trans (hbx.mono HB.out.size))
            have HRBB := Lib.hid hrx
            clear hbx hrx
            generalize w6.alloc (.cells #[.int .i64 0, .int .i64 0, .int .i64 0, .slice none 0 0] 24) = w7 at *
            obtain ⟨bb, hbb⟩ : ∃ bb, bb = w6.heap.size := ⟨_, rfl⟩
            rw [← hbb] at HRBB ⊢
            have HBB : Hid (bb = w6.heap.size) := Lib.hid hbb
            clear hbb
            have l5 := row_range HRA.out
            have l6 := row_range HRBB.out
            go_wp2_with (first | (refine wpList_load_mid rfl 24 _ rfl ba 0 rfl _ _ l5 Tryd.underlying24 rfl infoGas ?_) | (refine wpList_load_mid rfl 24 _ rfl bb 0 rfl _ _ l6 Tryd.underlying24 rfl infoGas ?_))
            refine (GZ.out w7).mono ?_
            rintro e8 w8 ⟨rfl, hb8⟩
            clear l5 l6
            have HR := Lib.hid (HR.out.keep hb8 HR.out.lt)
            have HRA := Lib.hid (HRA.out.keep hb8 HRA.out.lt)
            have HRBB := Lib.hid (HRBB.out.keep hb8 HRBB.out.lt)
            have HB := Lib.hid (HB.out.trans (hb8.mono HB.out.size))
            clear hb8
            have l5 := row_range HR.out
            go_wp2_with (refine wpList_load_mid rfl 24 _ rfl gb 0 rfl _ _ l5 Tryd.underlying24 rfl infoGas ?_)
            refine (K3.out w8 HB.out).mono ?_
            rintro e9 w9 ⟨rfl, hb9⟩
            clear l5
            have HR := Lib.hid (HR.out.keep hb9 HR.out.lt)
            have HRA := Lib.hid (HRA.out.keep hb9 HRA.out.lt)
            have HRBB := Lib.hid (HRBB.out.keep hb9 HRBB.out.lt)
            have HB := Lib.hid (HB.out.trans (hb9.mono HB.out.size))
            clear hb9
            go_wp2_with fail
            refine (TE.out w9 .nilIface 0 HB.out (errV_zero rfl).symm ⟨by omega, by omega⟩).mono ?_
            rintro e10 w10 ⟨rfl, hb10⟩
            have HR := Lib.hid (HR.out.keep hb10 HR.out.lt)
            have HRA := Lib.hid (HRA.out.keep hb10 HRA.out.lt)
            have HRBB := Lib.hid (HRBB.out.keep hb10 HRBB.out.lt)
            have HB := Lib.hid (HB.out.trans (hb10.mono HB.out.size))
            clear hb10
            have l5 := row_range HR.out
            go_wp2_with (refine wpList_load_mid rfl 24 _ rfl gb 0 rfl _ _ l5 Tryd.underlying24 rfl infoGas ?_)
            refine (K4.out w10 HB.out).mono ?_
            rintro e11 w11 ⟨rfl, hb11⟩
            clear l5
            have HR := Lib.hid (HR.out.keep hb11 HR.out.lt)
            have HRA := Lib.hid (HRA.out.keep hb11 HRA.out.lt)
            have HRBB := Lib.hid (HRBB.out.keep hb11 HRBB.out.lt)
            have HB := Lib.hid (HB.out.trans (hb11.mono HB.out.size))
            clear hb11
            go_wp2_with fail
            refine (TE.out w11 .nilIface 0 HB.out (errV_zero rfl).symm ⟨by omega, by omega⟩).mono ?_
            rintro e12 w12 ⟨rfl, hb12⟩
            have HR := Lib.hid (HR.out.keep hb12 HR.out.lt)
            have HRA := Lib.hid (HRA.out.keep hb12 HRA.out.lt)
            have HRBB := Lib.hid (HRBB.out.keep hb12 HRBB.out.lt)
            have HB := Lib.hid (HB.out.trans (hb12.mono HB.out.size))
            clear hb12
            have l5 := row_range HR.out
            go_wp2_with (refine wpList_load_mid rfl 24 _ rfl gb 0 rfl _ _ l5 Tryd.underlying24 rfl infoGas ?_)
            refine (K5.out w12 HB.out).mono ?_
            rintro e13 w13 ⟨⟨tg, tc, rfl, _, hvt⟩, hb13⟩
            clear l5
            have HR := Lib.hid (HR.out.keep hb13 HR.out.lt)
            have HRA := Lib.hid (HRA.out.keep hb13 HRA.out.lt)
            have HRBB := Lib.hid (HRBB.out.keep hb13 HRBB.out.lt)
            have HB := Lib.hid (HB.out.trans (hb13.mono HB.out.size))
            clear hb13
            have HIT := Lib.hid (hvt.is HNM.out)
            clear hvt
            go_upto_region 25 with fail
            have hrx : Row (w13.alloc (.cells #[.int .i64 K, .int .i64 W, .int .i64 H, .slice (some ⟨tg, 0, none⟩) n tc] 24)) w13.heap.size 24 (boxG K W H (some ⟨tg, 0, none⟩) n tc) := row_alloc w13 _ _
            have hbx : Below w13.heap.size w13 (w13.alloc (.cells #[.int .i64 K, .int .i64 W, .int .i64 H, .slice (some ⟨tg, 0, none⟩) n tc] 24)) := (Below.refl _ _).alloc (Nat.le_refl _) _
            have HR := Lib.hid (HR.out.keep hbx HR.out.lt)
            have HRA := Lib.hid (HRA.out.keep hbx HRA.out.lt)
            have HRBB := Lib.hid (HRBB.out.keep hbx HRBB.out.lt)
            have HIT := Lib.hid (HIT.out.keep hbx)
            have HB := Lib.hid (HB.out.trans (hbx.mono HB.out.size))
            have HRT := Lib.hid hrx
            clear hbx hrx
            generalize w13.alloc (.cells #[.int .i64 K, .int .i64 W, .int .i64 H, .slice (some ⟨tg, 0, none⟩) n tc] 24) = w14 at *
            obtain ⟨bt, hbt⟩ : ∃ bt, bt = w13.heap.size := ⟨_, rfl⟩
            rw [← hbt] at HRT ⊢
            have HBT : Hid (bt = w13.heap.size) := Lib.hid hbt
            clear hbt
            go_wp2_with fail
            refine (TE.out w14 .nilIface 0 HB.out (errV_zero rfl).symm ⟨by omega, by omega⟩).mono ?_
            rintro e15 w15 ⟨rfl, hb15⟩
            have HR := Lib.hid (HR.out.keep hb15 HR.out.lt)
            have HRA := Lib.hid (HRA.out.keep hb15 HRA.out.lt)
            have HRBB := Lib.hid (HRBB.out.keep hb15 HRBB.out.lt)
            have HRT := Lib.hid (HRT.out.keep hb15 HRT.out.lt)
            have HIT := Lib.hid (HIT.out.keep hb15)
            have HB := Lib.hid (HB.out.trans (hb15.mono HB.out.size))
            clear hb15
            have l5 := row_range HR.out
            go_wp2_with (refine wpList_load_mid rfl 24 _ rfl gb 0 rfl _ _ l5 Tryd.underlying24 rfl infoGas ?_)
            refine (L3.out w15 HB.out).mono ?_
            rintro e16 w16 ⟨rfl, hb16⟩
            clear l5
            have HR := Lib.hid (HR.out.keep hb16 HR.out.lt)
            have HRA := Lib.hid (HRA.out.keep hb16 HRA.out.lt)
            have HRBB := Lib.hid (HRBB.out.keep hb16 HRBB.out.lt)
            have HRT := Lib.hid (HRT.out.keep hb16 HRT.out.lt)
            have HIT := Lib.hid (HIT.out.keep hb16)
            have HB := Lib.hid (HB.out.trans (hb16.mono HB.out.size))
            clear hb16
            have l5 := row_range HR.out
            go_wp2_with (refine wpList_load_mid rfl 24 _ rfl gb 0 rfl _ _ l5 Tryd.underlying24 rfl infoGas ?_)
            refine (L4.out w16 HB.out).mono ?_
            rintro e17 w17 ⟨rfl, hb17⟩
            clear l5
            have HR := Lib.hid (HR.out.keep hb17 HR.out.lt)
            have HRA := Lib.hid (HRA.out.keep hb17 HRA.out.lt)
            have HRBB := Lib.hid (HRBB.out.keep hb17 HRBB.out.lt)
            have HRT := Lib.hid (HRT.out.keep hb17 HRT.out.lt)
            have HIT := Lib.hid (HIT.out.keep hb17)
            have HB := Lib.hid (HB.out.trans (hb17.mono HB.out.size))
            clear hb17
            have l5 := row_range HR.out
            go_wp2_with (refine wpList_load_mid rfl 24 _ rfl gb 0 rfl _ _ l5 Tryd.underlying24 rfl infoGas ?_)
            refine (L5.out w17 HB.out).mono ?_
            rintro e18 w18 ⟨⟨wg, wc, rfl, _, hvw⟩, hb18⟩
            clear l5
            have HR := Lib.hid (HR.out.keep hb18 HR.out.lt)
            have HRA := Lib.hid (HRA.out.keep hb18 HRA.out.lt)
            have HRBB := Lib.hid (HRBB.out.keep hb18 HRBB.out.lt)
            have HRT := Lib.hid (HRT.out.keep hb18 HRT.out.lt)
            have HIT := Lib.hid (HIT.out.keep hb18)
            have HB := Lib.hid (HB.out.trans (hb18.mono HB.out.size))
            clear hb18
            have HIW := Lib.hid (hvw.is HNM.out)
            clear hvw
            go_upto_region 34 with fail
            have hrx : Row (w18.alloc (.cells #[.int .i64 K, .int .i64 W, .int .i64 H, .slice (some ⟨wg, 0, none⟩) n wc] 24)) w18.heap.size 24 (boxG K W H (some ⟨wg, 0, none⟩) n wc) := row_alloc w18 _ _
            have hbx : Below w18.heap.size w18 (w18.alloc (.cells #[.int .i64 K, .int .i64 W, .int .i64 H, .slice (some ⟨wg, 0, none⟩) n wc] 24)) := (Below.refl _ _).alloc (Nat.le_refl _) _
            have HR := Lib.hid (HR.out.keep hbx HR.out.lt)
            have HRA := Lib.hid (HRA.out.keep hbx HRA.out.lt)
            have HRBB := Lib.hid (HRBB.out.keep hbx HRBB.out.lt)
            have HRT := Lib.hid (HRT.out.keep hbx HRT.out.lt)
            have HIT := Lib.hid (HIT.out.keep hbx)
            have HIW := Lib.hid (HIW.out.keep hbx)
            have HB := Lib.hid (HB.out.trans (hbx.mono HB.out.size))
            have HRW := Lib.hid hrx
            clear hbx hrx
            generalize w18.alloc (.cells #[.int .i64 K, .int .i64 W, .int .i64 H, .slice (some ⟨wg, 0, none⟩) n wc] 24) = w19 at *
            obtain ⟨bw, hbw⟩ : ∃ bw, bw = w18.heap.size := ⟨_, rfl⟩
            rw [← hbw] at HRW ⊢
            have HBW : Hid (bw = w18.heap.size) := Lib.hid hbw
            clear hbw
            have l5 := row_range HRT.out
            have l6 := row_range HRW.out
            go_wp2_with (first | (refine wpList_load_mid rfl 24 _ rfl bt 0 rfl _ _ l5 Tryd.underlying24 rfl infoGas ?_) | (refine wpList_load_mid rfl 24 _ rfl bw 0 rfl _ _ l6 Tryd.underlying24 rfl infoGas ?_))
            refine (GS.out tg 0 tc wg 0 wc (lstN n T) w19 HIT.out HIW.out).mono ?_
            rintro e20 w20 ⟨rfl, hb20⟩
            clear l5 l6
            have HR := Lib.hid (HR.out.keep hb20 HR.out.lt)
            have HRA := Lib.hid (HRA.out.keep hb20 HRA.out.lt)
            have HRBB := Lib.hid (HRBB.out.keep hb20 HRBB.out.lt)
            have HRT := Lib.hid (HRT.out.keep hb20 HRT.out.lt)
            have HRW := Lib.hid (HRW.out.keep hb20 HRW.out.lt)
            have HIT := Lib.hid (HIT.out.keep hb20)
            have HIW := Lib.hid (HIW.out.keep hb20)
            have HB := Lib.hid (HB.out.trans (hb20.mono HB.out.size))
            clear hb20
            go_wp2_with fail
            go_ret
            exact ⟨by simp, HB.out⟩
          · have HP2 : Hid (P2 cs m 0) := Lib.hid (.inl ⟨rfl, HP3.out, by omega, by omega⟩)
            have h63 : (K : Int) = 6 ∧ cs.length = 0 := Classical.byContradiction fun h => HNF.out (by rw [rfault_P2 HGF.out HP2.out, if_neg (by decide), if_neg h])
            have H63 := Lib.hid h63
            have hk6 : (K : Int) = 6 := h63.1
            have hcn0 : cn = 0 := by have := h63.2; rw [HCN.out] at this; exact this
            subst hcn0
            clear h63
            have f0 := HR.out.cell 0
            unfold boxG at f0
            dsimp only [List.getElem?_cons_succ, List.getElem?_cons_zero] at f0
            rw [hk6] at f0
            go_upto_region 14 with fail
            rw [← hk6] at f0
            clear f0 hk6
            have hr1 : rfault K W H zs cs m = 3 := by rw [rfault_P2 HGF.out HP2.out, if_neg (by decide), if_pos H63.out]
            have HR1 : Hid (ev = errV 3) := Lib.hid (by rw [HEV.out, hr1])
            clear hr1
            have l5 := row_range HR.out
            go_wp2_with (refine wpList_load_mid rfl 24 _ rfl gb 0 rfl _ _ l5 Tryd.underlying24 rfl infoGas ?_)
            refine (KB.out w3 HB.out).mono ?_
            rintro e4 w4 ⟨rfl, hb4⟩
            clear l5
            have HR := Lib.hid (HR.out.keep hb4 HR.out.lt)
            have HB := Lib.hid (HB.out.trans (hb4.mono HB.out.size))
            clear hb4
            go_upto_region 15 with fail
            have hrx : Row (w4.alloc (.cells #[.int .i64 0, .int .i64 0, .int .i64 0, .slice none 0 0] 24)) w4.heap.size 24 (noGas) := row_alloc w4 _ _
            have hbx : Below w4.heap.size w4 (w4.alloc (.cells #[.int .i64 0, .int .i64 0, .int .i64 0, .slice none 0 0] 24)) := (Below.refl _ _).alloc (Nat.le_refl _) _
            have HR := Lib.hid (HR.out.keep hbx HR.out.lt)
            have HB := Lib.hid (HB.out.trans (hbx.mono HB.out.size))
            have HRA := Lib.hid hrx
            clear hbx hrx
            generalize w4.alloc (.cells #[.int .i64 0, .int .i64 0, .int .i64 0, .slice none 0 0] 24) = w5 at *
            obtain ⟨ba, hba⟩ : ∃ ba, ba = w4.heap.size := ⟨_, rfl⟩
            rw [← hba] at HRA ⊢
            have HBA : Hid (ba = w4.heap.size) := Lib.hid hba
            clear hba
            go_wp2_with fail
            refine (TE.out w5 ev 3 HB.out HR1.out ⟨by omega, by omega⟩).mono ?_
            rintro e6 w6 ⟨rfl, hb6⟩
            have HR := Lib.hid (HR.out.keep hb6 HR.out.lt)
            have HRA := Lib.hid (HRA.out.keep hb6 HRA.out.lt)
            have HB := Lib.hid (HB.out.trans (hb6.mono HB.out.size))
            clear hb6
            go_upto_region 17 with fail
            have hrx : Row (w6.alloc (.cells #[.int .i64 0, .int .i64 0, .int .i64 0, .slice none 0 0] 24)) w6.heap.size 24 (noGas) := row_alloc w6 _ _
            have hbx : Below w6.heap.size w6 (w6.alloc (.cells #[.int .i64 0, .int .i64 0, .int .i64 0, .slice none 0 0] 24)) := (Below.refl _ _).alloc (Nat.le_refl _) _
            have HR := Lib.hid (HR.out.keep hbx HR.out.lt)
            have HRA := Lib.hid (HRA.out.keep hbx HRA.out.lt)
            have HB := Lib.hid (HB.out.trans (hbx.mono HB.out.size))
            have HRBB := Lib.hid hrx
            clear hbx hrx
            generalize w6.alloc (.cells #[.int .i64 0, .int .i64 0, .int .i64 0, .slice none 0 0] 24) = w7 at *
            obtain ⟨bb, hbb⟩ : ∃ bb, bb = w6.heap.size := ⟨_, rfl⟩
            rw [← hbb] at HRBB ⊢
            have HBB : Hid (bb = w6.heap.size) := Lib.hid hbb
            clear hbb
            have l5 := row_range HRA.out
            have l6 := row_range HRBB.out
            go_wp2_with (first | (refine wpList_load_mid rfl 24 _ rfl ba 0 rfl _ _ l5 Tryd.underlying24 rfl infoGas ?_) | (refine wpList_load_mid rfl 24 _ rfl bb 0 rfl _ _ l6 Tryd.underlying24 rfl infoGas ?_))
            refine (GZ.out w7).mono ?_
            rintro e8 w8 ⟨rfl, hb8⟩
            clear l5 l6
            have HR := Lib.hid (HR.out.keep hb8 HR.out.lt)
            have HRA := Lib.hid (HRA.out.keep hb8 HRA.out.lt)
            have HRBB := Lib.hid (HRBB.out.keep hb8 HRBB.out.lt)
            have HB := Lib.hid (HB.out.trans (hb8.mono HB.out.size))
            clear hb8
            have l5 := row_range HR.out
            go_wp2_with (refine wpList_load_mid rfl 24 _ rfl gb 0 rfl _ _ l5 Tryd.underlying24 rfl infoGas ?_)
            refine (K3.out w8 HB.out).mono ?_
            rintro e9 w9 ⟨rfl, hb9⟩
            clear l5
            have HR := Lib.hid (HR.out.keep hb9 HR.out.lt)
            have HRA := Lib.hid (HRA.out.keep hb9 HRA.out.lt)
            have HRBB := Lib.hid (HRBB.out.keep hb9 HRBB.out.lt)
            have HB := Lib.hid (HB.out.trans (hb9.mono HB.out.size))
            clear hb9
            go_wp2_with fail
            refine (TE.out w9 .nilIface 0 HB.out (errV_zero rfl).symm ⟨by omega, by omega⟩).mono ?_
            rintro e10 w10 ⟨rfl, hb10⟩
            have HR := Lib.hid (HR.out.keep hb10 HR.out.lt)
            have HRA := Lib.hid (HRA.out.keep hb10 HRA.out.lt)
            have HRBB := Lib.hid (HRBB.out.keep hb10 HRBB.out.lt)
            have HB := Lib.hid (HB.out.trans (hb10.mono HB.out.size))
            clear hb10
            have l5 := row_range HR.out
            go_wp2_with (refine wpList_load_mid rfl 24 _ rfl gb 0 rfl _ _ l5 Tryd.underlying24 rfl infoGas ?_)
            refine (K4.out w10 HB.out).mono ?_
            rintro e11 w11 ⟨rfl, hb11⟩
            clear l5
            have HR := Lib.hid (HR.out.keep hb11 HR.out.lt)
            have HRA := Lib.hid (HRA.out.keep hb11 HRA.out.lt)
            have HRBB := Lib.hid (HRBB.out.keep hb11 HRBB.out.lt)
            have HB := Lib.hid (HB.out.trans (hb11.mono HB.out.size))
            clear hb11
            go_wp2_with fail
            refine (TE.out w11 .nilIface 0 HB.out (errV_zero rfl).symm ⟨by omega, by omega⟩).mono ?_
            rintro e12 w12 ⟨rfl, hb12⟩
            have HR := Lib.hid (HR.out.keep hb12 HR.out.lt)
            have HRA := Lib.hid (HRA.out.keep hb12 HRA.out.lt)
            have HRBB := Lib.hid (HRBB.out.keep hb12 HRBB.out.lt)
            have HB := Lib.hid (HB.out.trans (hb12.mono HB.out.size))
            clear hb12
            have l5 := row_range HR.out
            go_wp2_with (refine wpList_load_mid rfl 24 _ rfl gb 0 rfl _ _ l5 Tryd.underlying24 rfl infoGas ?_)
            refine (K5.out w12 HB.out).mono ?_
            rintro e13 w13 ⟨⟨tg, tc, rfl, _, hvt⟩, hb13⟩
            clear l5
            have HR := Lib.hid (HR.out.keep hb13 HR.out.lt)
            have HRA := Lib.hid (HRA.out.keep hb13 HRA.out.lt)
            have HRBB := Lib.hid (HRBB.out.keep hb13 HRBB.out.lt)
            have HB := Lib.hid (HB.out.trans (hb13.mono HB.out.size))
            clear hb13
            have HIT := Lib.hid (hvt.is HNM.out)
            clear hvt
            go_upto_region 25 with fail
            have hrx : Row (w13.alloc (.cells #[.int .i64 K, .int .i64 W, .int .i64 H, .slice (some ⟨tg, 0, none⟩) n tc] 24)) w13.heap.size 24 (boxG K W H (some ⟨tg, 0, none⟩) n tc) := row_alloc w13 _ _
            have hbx : Below w13.heap.size w13 (w13.alloc (.cells #[.int .i64 K, .int .i64 W, .int .i64 H, .slice (some ⟨tg, 0, none⟩) n tc] 24)) := (Below.refl _ _).alloc (Nat.le_refl _) _
            have HR := Lib.hid (HR.out.keep hbx HR.out.lt)
            have HRA := Lib.hid (HRA.out.keep hbx HRA.out.lt)
            have HRBB := Lib.hid (HRBB.out.keep hbx HRBB.out.lt)
            have HIT := Lib.hid (HIT.out.keep hbx)
            have HB := Lib.hid (HB.out.trans (hbx.mono HB.out.size))
            have HRT := Lib.hid hrx
            clear hbx hrx
            generalize w13.alloc (.cells #[.int .i64 K, .int .i64 W, .int .i64 H, .slice (some ⟨tg, 0, none⟩) n tc] 24) = w14 at *
            obtain ⟨bt, hbt⟩ : ∃ bt, bt = w13.heap.size := ⟨_, rfl⟩
            rw [← hbt] at HRT ⊢
            have HBT : Hid (bt = w13.heap.size) := Lib.hid hbt
            clear hbt
            go_wp2_with fail
            refine (TE.out w14 .nilIface 0 HB.out (errV_zero rfl).symm ⟨by omega, by omega⟩).mono ?_
            rintro e15 w15 ⟨rfl, hb15⟩
            have HR := Lib.hid (HR.out.keep hb15 HR.out.lt)
            have HRA := Lib.hid (HRA.out.keep hb15 HRA.out.lt)
            have HRBB := Lib.hid (HRBB.out.keep hb15 HRBB.out.lt)
            have HRT := Lib.hid (HRT.out.keep hb15 HRT.out.lt)
            have HIT := Lib.hid (HIT.out.keep hb15)
            have HB := Lib.hid (HB.out.trans (hb15.mono HB.out.size))
            clear hb15
            have l5 := row_range HR.out
            go_wp2_with (refine wpList_load_mid rfl 24 _ rfl gb 0 rfl _ _ l5 Tryd.underlying24 rfl infoGas ?_)
            refine (L3.out w15 HB.out).mono ?_
            rintro e16 w16 ⟨rfl, hb16⟩
            clear l5
            have HR := Lib.hid (HR.out.keep hb16 HR.out.lt)
            have HRA := Lib.hid (HRA.out.keep hb16 HRA.out.lt)
            have HRBB := Lib.hid (HRBB.out.keep hb16 HRBB.out.lt)
            have HRT := Lib.hid (HRT.out.keep hb16 HRT.out.lt)
            have HIT := Lib.hid (HIT.out.keep hb16)
            have HB := Lib.hid (HB.out.trans (hb16.mono HB.out.size))
            clear hb16
            have l5 := row_range HR.out
            go_wp2_with (refine wpList_load_mid rfl 24 _ rfl gb 0 rfl _ _ l5 Tryd.underlying24 rfl infoGas ?_)
            refine (L4.out w16 HB.out).mono ?_
            rintro e17 w17 ⟨rfl, hb17⟩
            clear l5
            have HR := Lib.hid (HR.out.keep hb17 HR.out.lt)
            have HRA := Lib.hid (HRA.out.keep hb17 HRA.out.lt)
            have HRBB := Lib.hid (HRBB.out.keep hb17 HRBB.out.lt)
            have HRT := Lib.hid (HRT.out.keep hb17 HRT.out.lt)
            have HIT := Lib.hid (HIT.out.keep hb17)
            have HB := Lib.hid (HB.out.trans (hb17.mono HB.out.size))
            clear hb17
            have l5 := row_range HR.out
            go_wp2_with (refine wpList_load_mid rfl 24 _ rfl gb 0 rfl _ _ l5 Tryd.underlying24 rfl infoGas ?_)
            refine (L5.out w17 HB.out).mono ?_
            rintro e18 w18 ⟨⟨wg, wc, rfl, _, hvw⟩, hb18⟩
            clear l5
            have HR := Lib.hid (HR.out.keep hb18 HR.out.lt)
            have HRA := Lib.hid (HRA.out.keep hb18 HRA.out.lt)
            have HRBB := Lib.hid (HRBB.out.keep hb18 HRBB.out.lt)
            have HRT := Lib.hid (HRT.out.keep hb18 HRT.out.lt)
            have HIT := Lib.hid (HIT.out.keep hb18)
            have HB := Lib.hid (HB.out.trans (hb18.mono HB.out.size))
            clear hb18
            have HIW := Lib.hid (hvw.is HNM.out)
            clear hvw
            go_upto_region 34 with fail
            have hrx : Row (w18.alloc (.cells #[.int .i64 K, .int .i64 W, .int .i64 H, .slice (some ⟨wg, 0, none⟩) n wc] 24)) w18.heap.size 24 (boxG K W H (some ⟨wg, 0, none⟩) n wc) := row_alloc w18 _ _
            have hbx : Below w18.heap.size w18 (w18.alloc (.cells #[.int .i64 K, .int .i64 W, .int .i64 H, .slice (some ⟨wg, 0, none⟩) n wc] 24)) := (Below.refl _ _).alloc (Nat.le_refl _) _
            have HR := Lib.hid (HR.out.keep hbx HR.out.lt)
            have HRA := Lib.hid (HRA.out.keep hbx HRA.out.lt)
            have HRBB := Lib.hid (HRBB.out.keep hbx HRBB.out.lt)
            have HRT := Lib.hid (HRT.out.keep hbx HRT.out.lt)
            have HIT := Lib.hid (HIT.out.keep hbx)
            have HIW := Lib.hid (HIW.out.keep hbx)
            have HB := Lib.hid (HB.out.trans (hbx.mono HB.out.size))
            have HRW := Lib.hid hrx
            clear hbx hrx
            generalize w18.alloc (.cells #[.int .i64 K, .int .i64 W, .int .i64 H, .slice (some ⟨wg, 0, none⟩) n wc] 24) = w19 at *
            obtain ⟨bw, hbw⟩ : ∃ bw, bw = w18.heap.size := ⟨_, rfl⟩
            rw [← hbw] at HRW ⊢
            have HBW : Hid (bw = w18.heap.size) := Lib.hid hbw
            clear hbw
            have l5 := row_range HRT.out
            have l6 := row_range HRW.out
            go_wp2_with (first | (refine wpList_load_mid rfl 24 _ rfl bt 0 rfl _ _ l5 Tryd.underlying24 rfl infoGas ?_) | (refine wpList_load_mid rfl 24 _ rfl bw 0 rfl _ _ l6 Tryd.underlying24 rfl infoGas ?_))
            refine (GS.out tg 0 tc wg 0 wc (lstN n T) w19 HIT.out HIW.out).mono ?_
            rintro e20 w20 ⟨rfl, hb20⟩
            clear l5 l6
            have HR := Lib.hid (HR.out.keep hb20 HR.out.lt)
            have HRA := Lib.hid (HRA.out.keep hb20 HRA.out.lt)
            have HRBB := Lib.hid (HRBB.out.keep hb20 HRBB.out.lt)
            have HRT := Lib.hid (HRT.out.keep hb20 HRT.out.lt)
            have HRW := Lib.hid (HRW.out.keep hb20 HRW.out.lt)
            have HIT := Lib.hid (HIT.out.keep hb20)
            have HIW := Lib.hid (HIW.out.keep hb20)
            have HB := Lib.hid (HB.out.trans (hb20.mono HB.out.size))
            clear hb20
            go_wp2_with fail
            go_ret
            exact ⟨by simp, HB.out⟩
end Gs
end Go.Proofs.YtekoldebcihdoaaDoor
