/- THE LAW GasFlows: its walk, out of its callees' contracts. -/
import Derived.Test.YtekoldebcihdoaaDoorGsR
import Derived.Test.YtekoldebcihdoaaDoorGsT
import Derived.Test.YtekoldebcihdoaaDoorGsE
import Derived.Test.YtekoldebcihdoaaDoorGsG
import Derived.Test.YtekoldebcihdoaaDoorGsH
import Derived.Test.YtekoldebcihdoaaDoorTold
namespace Go.Proofs.YtekoldebcihdoaaDoor
set_option linter.unusedSimpArgs false
set_option linter.unusedVariables false
open Go.RowKit
namespace Gs
open Tld Mem

theorem gfault_rng (K W H : Int) (zs : List Int) : 0 ≤ gfault K W H zs ∧ gfault K W H zs ≤ 3 := by
  unfold gfault
  split
  · omega
  · split
    · omega
    · split <;> omega
theorem rfault_rng (K W H : Int) (zs cs : List Int) (m : Int) : 0 ≤ rfault K W H zs cs m ∧ rfault K W H zs cs m ≤ 3 := by
  unfold rfault
  split
  · exact gfault_rng K W H zs
  · split
    · omega
    · split <;> omega
/-- What has become of the fault behind the coins, and behind the number of steps. -/
def P1 (cs : List Int) (f : Int) : Prop := (f = 0 ∧ cs.any coinbad = false) ∨ (f = 1 ∧ cs.any coinbad = true)
def P2 (cs : List Int) (m f : Int) : Prop := (f = 0 ∧ cs.any coinbad = false ∧ 0 ≤ m ∧ m ≤ 100000) ∨ (f = 1 ∧ (m < 0 ∨ 100000 < m ∨ cs.any coinbad = true))
theorem rfault_P2 {K W H : Int} {zs cs : List Int} {m f : Int} (hg : gfault K W H zs = 0) (h : P2 cs m f) : rfault K W H zs cs m = if f = 1 then 1 else if K = 6 ∧ cs.length = 0 then 3 else 0 := by
  unfold rfault
  rw [if_neg (fun x => x hg)]
  rcases h with ⟨rfl, h1, h2, h3⟩ | ⟨rfl, h1⟩
  · have hA : ¬ (m < 0 ∨ 100000 < m ∨ cs.any coinbad = true) := by
      rintro (h | h | h)
      · omega
      · omega
      · rw [h1] at h; cases h
    rw [if_neg hA, if_neg (show ¬ (0 : Int) = 1 by omega)]
  · rw [if_pos h1, if_pos rfl]
theorem P1.range {cs : List Int} {f : Int} (h : P1 cs f) : f = 0 ∨ f = 1 := by
  rcases h with ⟨h, _⟩ | ⟨h, _⟩
  · exact .inl h
  · exact .inr h
theorem P2.range {cs : List Int} {m f : Int} (h : P2 cs m f) : f = 0 ∨ f = 1 := by
  rcases h with ⟨h, _⟩ | ⟨h, _⟩
  · exact .inl h
  · exact .inr h
set_option maxHeartbeats 8000000 in
set_option maxRecDepth 1000000 in
theorem gasFlows_bad (K W H : Int) (a : Option Addr) (n c : Nat) (zs : List Int) (ca : Option Addr) (cn cc : Nat) (cs : List Int) (m : Int) (w : World) (hZ : Ints.Is w a n zs) (hC : Ints.Is w ca cn cs) (hL : Tld.Laid w) (hg : gfault K W H zs ≠ 0) :
    Calls Tryd.prog 3 #[gas K W H a n c, .slice ca cn cc, .int .i64 m] w fun e w' => e = .returned (.bool true) ∧ Below w.heap.size w w' := by
  have HZ : Hid (∀ w2, Below w.heap.size w w2 → Ints.Is w2 a n zs) := Lib.hid (fun w2 h => hZ.keep h)
  have HC : Hid (∀ w2, Below w.heap.size w w2 → Ints.Is w2 ca cn cs) := Lib.hid (fun w2 h => hC.keep h)
  have HCN := Lib.hid hC.len
  have HCL := hC.le
  unfold maxLen at HCL
  have HL := Lib.hid hL
  have TE : Hid (∀ w2 v k, Below w.heap.size w w2 → v = errV k → 0 ≤ k ∧ k ≤ 3 → Calls Tryd.prog 6 #[v, .int .i64 k] w2 fun e w' => e = .returned (.bool true) ∧ Below w2.heap.size w2 w') := Lib.hid (fun w2 v k h hv hk => by
    have := same_any k k w2 (HL.out.keep h) (by omega) (by omega)
    rw [beq_self_eq_true] at this
    rw [hv]
    exact this)
  have GZ : Hid (∀ w2, Calls Tryd.prog 9 #[.agg #[.int .i64 0, .int .i64 0, .int .i64 0, .slice none 0 0], .agg #[.int .i64 0, .int .i64 0, .int .i64 0, .slice none 0 0]] w2 fun e w' => e = .returned (.bool true) ∧ Below w2.heap.size w2 w') := Lib.hid (fun w2 => gases_any 0 0 0 none none 0 0 0 [] w2 (Ints.Is.nil _) (Ints.Is.nil _))
  have hrf : rfault K W H zs cs m = gfault K W H zs := by
    unfold rfault
    rw [if_pos hg]
  have HRG := Lib.hid (gfault_rng K W H zs)
  have K0 := Lib.hid (fun w2 (h : Below w.heap.size w w2) => gas_ref K W H a n c zs w2 (HZ.out w2 h))
  have K1 := Lib.hid (fun w2 (h : Below w.heap.size w w2) => check_any K W H a n c zs w2 (HZ.out w2 h))
  have K2 := Lib.hid (fun w2 (h : Below w.heap.size w w2) => run_bad K W H a n c zs ca cn cc cs m w2 (HZ.out w2 h) (HC.out w2 h) (by rw [hrf]; exact hg))
  have K3 := Lib.hid (fun w2 (h : Below w.heap.size w w2) => mass_bad K W H a n c zs w2 (HZ.out w2 h) hg)
  have K4 := Lib.hid (fun w2 (h : Below w.heap.size w w2) => push_bad K W H a n c zs w2 (HZ.out w2 h) hg)
  have K5 := Lib.hid (fun w2 (h : Below w.heap.size w w2) => turned_bad K W H a n c zs w2 (HZ.out w2 h) hg)
  rw [hrf] at K2
  clear hrf hZ hC hL
  have HG := Lib.hid hg
  obtain ⟨e, he⟩ : ∃ e, e = gfault K W H zs := ⟨_, rfl⟩
  rw [← he] at K0 K1 K2 K3 K4 K5 HG HRG
  have hne : ¬ e = 0 := by rw [he]; exact hg
  have hne1 : (e == 0) = false := beq_eq_false_iff_ne.2 hne
  have hne2 : (e != 0) = true := by rw [bne_iff_ne]; exact hne
  clear he hg
  obtain ⟨ev, hev⟩ : ∃ ev, ev = errV e := ⟨_, rfl⟩
  rw [← hev] at K1 K2 K3 K4 K5
  have HEV := Lib.hid hev
  clear hev
  unfold gas at K0 K1 K2 K3 K4 K5 ⊢
  have HB : Hid (Below w.heap.size w w) := Lib.hid (Below.refl _ _)
  go_enter Tryd.func3, Tryd.ntmps3
  go_upto_region 1 with fail
  have hr0 : Row (w.alloc (.cells #[.int .i64 K, .int .i64 W, .int .i64 H, .slice a n c] 24)) w.heap.size 24 (boxG K W H a n c) := row_alloc w _ _
  have hb0 : Below w.heap.size w (w.alloc (.cells #[.int .i64 K, .int .i64 W, .int .i64 H, .slice a n c] 24)) := (Below.refl _ _).alloc (Nat.le_refl _) _
  have HR := Lib.hid hr0
  have HB := Lib.hid hb0
  clear hr0 hb0
  generalize w.alloc (.cells #[.int .i64 K, .int .i64 W, .int .i64 H, .slice a n c] 24) = w0 at *
  obtain ⟨gb, hgb⟩ : ∃ gb, gb = w.heap.size := ⟨_, rfl⟩
  rw [← hgb] at HR ⊢
  clear hgb
  have l5 := row_range HR.out
  go_wp2_with (refine wpList_load_mid rfl 24 _ rfl gb 0 rfl _ _ l5 Tryd.underlying24 rfl infoGas ?_)
  refine (K0.out w0 HB.out).mono ?_
  rintro e1 w1 ⟨rfl, hb1⟩
  clear l5
  have HR := Lib.hid (HR.out.keep hb1 HR.out.lt)
  have HB := Lib.hid (HB.out.trans (hb1.mono HB.out.size))
  clear hb1
  have l5 := row_range HR.out
  go_wp2_with (refine wpList_load_mid rfl 24 _ rfl gb 0 rfl _ _ l5 Tryd.underlying24 rfl infoGas ?_)
  refine (K1.out w1 HB.out).mono ?_
  rintro e2 w2 ⟨rfl, hb2⟩
  clear l5
  have HR := Lib.hid (HR.out.keep hb2 HR.out.lt)
  have HB := Lib.hid (HB.out.trans (hb2.mono HB.out.size))
  clear hb2
  go_wp2_with fail
  refine (TE.out w2 ev e HB.out HEV.out HRG.out).mono ?_
  rintro e3 w3 ⟨rfl, hb3⟩
  have HR := Lib.hid (HR.out.keep hb3 HR.out.lt)
  have HB := Lib.hid (HB.out.trans (hb3.mono HB.out.size))
  clear hb3
  go_wp2_with fail
  go_loopw [10, 11] (fun u v wr => u = .int .i64 e ∧ v = .int .i64 0 ∧ wr = w3) (fun _ _ _ => 0)
  case atStart => exact ⟨rfl, rfl, rfl⟩
  case round =>
    obtain ⟨rfl, rfl, hw⟩ := hrel
    rw [hw]
    by_cases hc0 : 0 < cn
    · have hcp : (0 : Int) < (cn : Int) := by omega
      have l5 := row_range HR.out
      go_wp2_with (refine wpList_load_mid rfl 24 _ rfl gb 0 rfl _ _ l5 Tryd.underlying24 rfl infoGas ?_)
      refine (K2.out w3 HB.out).mono ?_
      rintro e4 w4 ⟨rfl, hb4⟩
      clear l5
      have HR := Lib.hid (HR.out.keep hb4 HR.out.lt)
      have HB := Lib.hid (HB.out.trans (hb4.mono HB.out.size))
      clear hb4
      go_upto_region 15 with fail
      have hrx : Row (w4.alloc (.cells #[.int .i64 0, .int .i64 0, .int .i64 0, .slice none 0 0] 24)) w4.heap.size 24 (noGas) := row_alloc w4 _ _
      have hbx : Below w4.heap.size w4 (w4.alloc (.cells #[.int .i64 0, .int .i64 0, .int .i64 0, .slice none 0 0] 24)) := (Below.refl _ _).alloc (Nat.le_refl _) _
      have HR := Lib.hid (HR.out.keep hbx HR.out.lt)
      have HB := Lib.hid (HB.out.trans (hbx.mono HB.out.size))
      have HRA := Lib.hid hrx
      clear hbx hrx
      generalize w4.alloc (.cells #[.int .i64 0, .int .i64 0, .int .i64 0, .slice none 0 0] 24) = w5 at *
      obtain ⟨ba, hba⟩ : ∃ ba, ba = w4.heap.size := ⟨_, rfl⟩
      rw [← hba] at HRA ⊢
      have HBA : Hid (ba = w4.heap.size) := Lib.hid hba
      clear hba
      go_wp2_with fail
      refine (TE.out w5 ev e HB.out HEV.out HRG.out).mono ?_
      rintro e6 w6 ⟨rfl, hb6⟩
      have HR := Lib.hid (HR.out.keep hb6 HR.out.lt)
      have HRA := Lib.hid (HRA.out.keep hb6 HRA.out.lt)
      have HB := Lib.hid (HB.out.trans (hb6.mono HB.out.size))
      clear hb6
      go_upto_region 17 with fail
      have hrx : Row (w6.alloc (.cells #[.int .i64 0, .int .i64 0, .int .i64 0, .slice none 0 0] 24)) w6.heap.size 24 (noGas) := row_alloc w6 _ _
      have hbx : Below w6.heap.size w6 (w6.alloc (.cells #[.int .i64 0, .int .i64 0, .int .i64 0, .slice none 0 0] 24)) := (Below.refl _ _).alloc (Nat.le_refl _) _
      have HR := Lib.hid (HR.out.keep hbx HR.out.lt)
      have HRA := Lib.hid (HRA.out.keep hbx HRA.out.lt)
      have HB := Lib.hid (HB.out.trans (hbx.mono HB.out.size))
      have HRBB := Lib.hid hrx
      clear hbx hrx
      generalize w6.alloc (.cells #[.int .i64 0, .int .i64 0, .int .i64 0, .slice none 0 0] 24) = w7 at *
      obtain ⟨bb, hbb⟩ : ∃ bb, bb = w6.heap.size := ⟨_, rfl⟩
      rw [← hbb] at HRBB ⊢
      have HBB : Hid (bb = w6.heap.size) := Lib.hid hbb
      clear hbb
      have l5 := row_range HRA.out
      have l6 := row_range HRBB.out
      go_wp2_with (first | (refine wpList_load_mid rfl 24 _ rfl ba 0 rfl _ _ l5 Tryd.underlying24 rfl infoGas ?_) | (refine wpList_load_mid rfl 24 _ rfl bb 0 rfl _ _ l6 Tryd.underlying24 rfl infoGas ?_))
      refine (GZ.out w7).mono ?_
      rintro e8 w8 ⟨rfl, hb8⟩
      clear l5 l6
      have HR := Lib.hid (HR.out.keep hb8 HR.out.lt)
      have HRA := Lib.hid (HRA.out.keep hb8 HRA.out.lt)
      have HRBB := Lib.hid (HRBB.out.keep hb8 HRBB.out.lt)
      have HB := Lib.hid (HB.out.trans (hb8.mono HB.out.size))
      clear hb8
      have l5 := row_range HR.out
      go_wp2_with (refine wpList_load_mid rfl 24 _ rfl gb 0 rfl _ _ l5 Tryd.underlying24 rfl infoGas ?_)
      refine (K3.out w8 HB.out).mono ?_
      rintro e9 w9 ⟨rfl, hb9⟩
      clear l5
      have HR := Lib.hid (HR.out.keep hb9 HR.out.lt)
      have HRA := Lib.hid (HRA.out.keep hb9 HRA.out.lt)
      have HRBB := Lib.hid (HRBB.out.keep hb9 HRBB.out.lt)
      have HB := Lib.hid (HB.out.trans (hb9.mono HB.out.size))
      clear hb9
      go_wp2_with fail
      refine (TE.out w9 ev e HB.out HEV.out HRG.out).mono ?_
      rintro e10 w10 ⟨rfl, hb10⟩
      have HR := Lib.hid (HR.out.keep hb10 HR.out.lt)
      have HRA := Lib.hid (HRA.out.keep hb10 HRA.out.lt)
      have HRBB := Lib.hid (HRBB.out.keep hb10 HRBB.out.lt)
      have HB := Lib.hid (HB.out.trans (hb10.mono HB.out.size))
      clear hb10
      have l5 := row_range HR.out
      go_wp2_with (refine wpList_load_mid rfl 24 _ rfl gb 0 rfl _ _ l5 Tryd.underlying24 rfl infoGas ?_)
      refine (K4.out w10 HB.out).mono ?_
      rintro e11 w11 ⟨rfl, hb11⟩
      clear l5
      have HR := Lib.hid (HR.out.keep hb11 HR.out.lt)
      have HRA := Lib.hid (HRA.out.keep hb11 HRA.out.lt)
      have HRBB := Lib.hid (HRBB.out.keep hb11 HRBB.out.lt)
      have HB := Lib.hid (HB.out.trans (hb11.mono HB.out.size))
      clear hb11
      go_wp2_with fail
      refine (TE.out w11 ev e HB.out HEV.out HRG.out).mono ?_
      rintro e12 w12 ⟨rfl, hb12⟩
      have HR := Lib.hid (HR.out.keep hb12 HR.out.lt)
      have HRA := Lib.hid (HRA.out.keep hb12 HRA.out.lt)
      have HRBB := Lib.hid (HRBB.out.keep hb12 HRBB.out.lt)
      have HB := Lib.hid (HB.out.trans (hb12.mono HB.out.size))
      clear hb12
      have l5 := row_range HR.out
      go_wp2_with (refine wpList_load_mid rfl 24 _ rfl gb 0 rfl _ _ l5 Tryd.underlying24 rfl infoGas ?_)
      refine (K5.out w12 HB.out).mono ?_
      rintro e13 w13 ⟨rfl, hb13⟩
      clear l5
      have HR := Lib.hid (HR.out.keep hb13 HR.out.lt)
      have HRA := Lib.hid (HRA.out.keep hb13 HRA.out.lt)
      have HRBB := Lib.hid (HRBB.out.keep hb13 HRBB.out.lt)
      have HB := Lib.hid (HB.out.trans (hb13.mono HB.out.size))
      clear hb13
      go_upto_region 25 with fail
      have hrx : Row (w13.alloc (.cells #[.int .i64 0, .int .i64 0, .int .i64 0, .slice none 0 0] 24)) w13.heap.size 24 (noGas) := row_alloc w13 _ _
      have hbx : Below w13.heap.size w13 (w13.alloc (.cells #[.int .i64 0, .int .i64 0, .int .i64 0, .slice none 0 0] 24)) := (Below.refl _ _).alloc (Nat.le_refl _) _
      have HR := Lib.hid (HR.out.keep hbx HR.out.lt)
      have HRA := Lib.hid (HRA.out.keep hbx HRA.out.lt)
      have HRBB := Lib.hid (HRBB.out.keep hbx HRBB.out.lt)
      have HB := Lib.hid (HB.out.trans (hbx.mono HB.out.size))
      have HRT := Lib.hid hrx
      clear hbx hrx
      generalize w13.alloc (.cells #[.int .i64 0, .int .i64 0, .int .i64 0, .slice none 0 0] 24) = w14 at *
      obtain ⟨bt, hbt⟩ : ∃ bt, bt = w13.heap.size := ⟨_, rfl⟩
      rw [← hbt] at HRT ⊢
      have HBT : Hid (bt = w13.heap.size) := Lib.hid hbt
      clear hbt
      go_wp2_with fail
      refine (TE.out w14 ev e HB.out HEV.out HRG.out).mono ?_
      rintro e15 w15 ⟨rfl, hb15⟩
      have HR := Lib.hid (HR.out.keep hb15 HR.out.lt)
      have HRA := Lib.hid (HRA.out.keep hb15 HRA.out.lt)
      have HRBB := Lib.hid (HRBB.out.keep hb15 HRBB.out.lt)
      have HRT := Lib.hid (HRT.out.keep hb15 HRT.out.lt)
      have HB := Lib.hid (HB.out.trans (hb15.mono HB.out.size))
      clear hb15
      have l5 := row_range HRT.out
      go_wp2_with (refine wpList_load_mid rfl 24 _ rfl bt 0 rfl _ _ l5 Tryd.underlying24 rfl infoGas ?_)
      refine (GZ.out w15).mono ?_
      rintro e16 w16 ⟨rfl, hb16⟩
      clear l5
      have HR := Lib.hid (HR.out.keep hb16 HR.out.lt)
      have HRA := Lib.hid (HRA.out.keep hb16 HRA.out.lt)
      have HRBB := Lib.hid (HRBB.out.keep hb16 HRBB.out.lt)
      have HRT := Lib.hid (HRT.out.keep hb16 HRT.out.lt)
      have HB := Lib.hid (HB.out.trans (hb16.mono HB.out.size))
      clear hb16
      go_wp2_with fail
      go_ret
      exact ⟨by simp, HB.out⟩
    · have hcp : ¬ (0 : Int) < (cn : Int) := by omega
      have l5 := row_range HR.out
      go_wp2_with (refine wpList_load_mid rfl 24 _ rfl gb 0 rfl _ _ l5 Tryd.underlying24 rfl infoGas ?_)
      refine (K2.out w3 HB.out).mono ?_
      rintro e4 w4 ⟨rfl, hb4⟩
      clear l5
      have HR := Lib.hid (HR.out.keep hb4 HR.out.lt)
      have HB := Lib.hid (HB.out.trans (hb4.mono HB.out.size))
      clear hb4
      go_upto_region 15 with fail
      have hrx : Row (w4.alloc (.cells #[.int .i64 0, .int .i64 0, .int .i64 0, .slice none 0 0] 24)) w4.heap.size 24 (noGas) := row_alloc w4 _ _
      have hbx : Below w4.heap.size w4 (w4.alloc (.cells #[.int .i64 0, .int .i64 0, .int .i64 0, .slice none 0 0] 24)) := (Below.refl _ _).alloc (Nat.le_refl _) _
      have HR := Lib.hid (HR.out.keep hbx HR.out.lt)
      have HB := Lib.hid (HB.out.trans (hbx.mono HB.out.size))
      have HRA := Lib.hid hrx
      clear hbx hrx
      generalize w4.alloc (.cells #[.int .i64 0, .int .i64 0, .int .i64 0, .slice none 0 0] 24) = w5 at *
      obtain ⟨ba, hba⟩ : ∃ ba, ba = w4.heap.size := ⟨_, rfl⟩
      rw [← hba] at HRA ⊢
      have HBA : Hid (ba = w4.heap.size) := Lib.hid hba
      clear hba
      go_wp2_with fail
      refine (TE.out w5 ev e HB.out HEV.out HRG.out).mono ?_
      rintro e6 w6 ⟨rfl, hb6⟩
      have HR := Lib.hid (HR.out.keep hb6 HR.out.lt)
      have HRA := Lib.hid (HRA.out.keep hb6 HRA.out.lt)
      have HB := Lib.hid (HB.out.trans (hb6.mono HB.out.size))
      clear hb6
      go_upto_region 17 with fail
      have hrx : Row (w6.alloc (.cells #[.int .i64 0, .int .i64 0, .int .i64 0, .slice none 0 0] 24)) w6.heap.size 24 (noGas) := row_alloc w6 _ _
      have hbx : Below w6.heap.size w6 (w6.alloc (.cells #[.int .i64 0, .int .i64 0, .int .i64 0, .slice none 0 0] 24)) := (Below.refl _ _).alloc (Nat.le_refl _) _
      have HR := Lib.hid (HR.out.keep hbx HR.out.lt)
      have HRA := Lib.hid (HRA.out.keep hbx HRA.out.lt)
      have HB := Lib.hid (HB.out.trans (hbx.mono HB.out.size))
      have HRBB := Lib.hid hrx
      clear hbx hrx
      generalize w6.alloc (.cells #[.int .i64 0, .int .i64 0, .int .i64 0, .slice none 0 0] 24) = w7 at *
      obtain ⟨bb, hbb⟩ : ∃ bb, bb = w6.heap.size := ⟨_, rfl⟩
      rw [← hbb] at HRBB ⊢
      have HBB : Hid (bb = w6.heap.size) := Lib.hid hbb
      clear hbb
      have l5 := row_range HRA.out
      have l6 := row_range HRBB.out
      go_wp2_with (first | (refine wpList_load_mid rfl 24 _ rfl ba 0 rfl _ _ l5 Tryd.underlying24 rfl infoGas ?_) | (refine wpList_load_mid rfl 24 _ rfl bb 0 rfl _ _ l6 Tryd.underlying24 rfl infoGas ?_))
      refine (GZ.out w7).mono ?_
      rintro e8 w8 ⟨rfl, hb8⟩
      clear l5 l6
      have HR := Lib.hid (HR.out.keep hb8 HR.out.lt)
      have HRA := Lib.hid (HRA.out.keep hb8 HRA.out.lt)
      have HRBB := Lib.hid (HRBB.out.keep hb8 HRBB.out.lt)
      have HB := Lib.hid (HB.out.trans (hb8.mono HB.out.size))
      clear hb8
      have l5 := row_range HR.out
      go_wp2_with (refine wpList_load_mid rfl 24 _ rfl gb 0 rfl _ _ l5 Tryd.underlying24 rfl infoGas ?_)
      refine (K3.out w8 HB.out).mono ?_
      rintro e9 w9 ⟨rfl, hb9⟩
      clear l5
      have HR := Lib.hid (HR.out.keep hb9 HR.out.lt)
      have HRA := Lib.hid (HRA.out.keep hb9 HRA.out.lt)
      have HRBB := Lib.hid (HRBB.out.keep hb9 HRBB.out.lt)
      have HB := Lib.hid (HB.out.trans (hb9.mono HB.out.size))
      clear hb9
      go_wp2_with fail
      refine (TE.out w9 ev e HB.out HEV.out HRG.out).mono ?_
      rintro e10 w10 ⟨rfl, hb10⟩
      have HR := Lib.hid (HR.out.keep hb10 HR.out.lt)
      have HRA := Lib.hid (HRA.out.keep hb10 HRA.out.lt)
      have HRBB := Lib.hid (HRBB.out.keep hb10 HRBB.out.lt)
      have HB := Lib.hid (HB.out.trans (hb10.mono HB.out.size))
      clear hb10
      have l5 := row_range HR.out
      go_wp2_with (refine wpList_load_mid rfl 24 _ rfl gb 0 rfl _ _ l5 Tryd.underlying24 rfl infoGas ?_)
      refine (K4.out w10 HB.out).mono ?_
      rintro e11 w11 ⟨rfl, hb11⟩
      clear l5
      have HR := Lib.hid (HR.out.keep hb11 HR.out.lt)
      have HRA := Lib.hid (HRA.out.keep hb11 HRA.out.lt)
      have HRBB := Lib.hid (HRBB.out.keep hb11 HRBB.out.lt)
      have HB := Lib.hid (HB.out.trans (hb11.mono HB.out.size))
      clear hb11
      go_wp2_with fail
      refine (TE.out w11 ev e HB.out HEV.out HRG.out).mono ?_
      rintro e12 w12 ⟨rfl, hb12⟩
      have HR := Lib.hid (HR.out.keep hb12 HR.out.lt)
      have HRA := Lib.hid (HRA.out.keep hb12 HRA.out.lt)
      have HRBB := Lib.hid (HRBB.out.keep hb12 HRBB.out.lt)
      have HB := Lib.hid (HB.out.trans (hb12.mono HB.out.size))
      clear hb12
      have l5 := row_range HR.out
      go_wp2_with (refine wpList_load_mid rfl 24 _ rfl gb 0 rfl _ _ l5 Tryd.underlying24 rfl infoGas ?_)
      refine (K5.out w12 HB.out).mono ?_
      rintro e13 w13 ⟨rfl, hb13⟩
      clear l5
      have HR := Lib.hid (HR.out.keep hb13 HR.out.lt)
      have HRA := Lib.hid (HRA.out.keep hb13 HRA.out.lt)
      have HRBB := Lib.hid (HRBB.out.keep hb13 HRBB.out.lt)
      have HB := Lib.hid (HB.out.trans (hb13.mono HB.out.size))
      clear hb13
      go_upto_region 25 with fail
      have hrx : Row (w13.alloc (.cells #[.int .i64 0, .int .i64 0, .int .i64 0, .slice none 0 0] 24)) w13.heap.size 24 (noGas) := row_alloc w13 _ _
      have hbx : Below w13.heap.size w13 (w13.alloc (.cells #[.int .i64 0, .int .i64 0, .int .i64 0, .slice none 0 0] 24)) := (Below.refl _ _).alloc (Nat.le_refl _) _
      have HR := Lib.hid (HR.out.keep hbx HR.out.lt)
      have HRA := Lib.hid (HRA.out.keep hbx HRA.out.lt)
      have HRBB := Lib.hid (HRBB.out.keep hbx HRBB.out.lt)
      have HB := Lib.hid (HB.out.trans (hbx.mono HB.out.size))
      have HRT := Lib.hid hrx
      clear hbx hrx
      generalize w13.alloc (.cells #[.int .i64 0, .int .i64 0, .int .i64 0, .slice none 0 0] 24) = w14 at *
      obtain ⟨bt, hbt⟩ : ∃ bt, bt = w13.heap.size := ⟨_, rfl⟩
      rw [← hbt] at HRT ⊢
      have HBT : Hid (bt = w13.heap.size) := Lib.hid hbt
      clear hbt
      go_wp2_with fail
      refine (TE.out w14 ev e HB.out HEV.out HRG.out).mono ?_
      rintro e15 w15 ⟨rfl, hb15⟩
      have HR := Lib.hid (HR.out.keep hb15 HR.out.lt)
      have HRA := Lib.hid (HRA.out.keep hb15 HRA.out.lt)
      have HRBB := Lib.hid (HRBB.out.keep hb15 HRBB.out.lt)
      have HRT := Lib.hid (HRT.out.keep hb15 HRT.out.lt)
      have HB := Lib.hid (HB.out.trans (hb15.mono HB.out.size))
      clear hb15
      have l5 := row_range HRT.out
      go_wp2_with (refine wpList_load_mid rfl 24 _ rfl bt 0 rfl _ _ l5 Tryd.underlying24 rfl infoGas ?_)
      refine (GZ.out w15).mono ?_
      rintro e16 w16 ⟨rfl, hb16⟩
      clear l5
      have HR := Lib.hid (HR.out.keep hb16 HR.out.lt)
      have HRA := Lib.hid (HRA.out.keep hb16 HRA.out.lt)
      have HRBB := Lib.hid (HRBB.out.keep hb16 HRBB.out.lt)
      have HRT := Lib.hid (HRT.out.keep hb16 HRT.out.lt)
      have HB := Lib.hid (HB.out.trans (hb16.mono HB.out.size))
      clear hb16
      go_wp2_with fail
      go_ret
      exact ⟨by simp, HB.out⟩
end Gs
end Go.Proofs.YtekoldebcihdoaaDoor
