/- THE LAW PatternBack: its walk, out of its callees' contracts. -/
import Derived.Test.YtgagophijmiceaaDoorPbEq
namespace Go.Proofs.YtgagophijmiceaaDoor
set_option linter.unusedSimpArgs false
set_option linter.unusedVariables false
open Go.RowKit
namespace Pr
open Tld Mem Bl Pn Pw Rd

theorem pfault_bds (W H : Int) (zs : List Int) : -1000 ≤ pfault W H zs ∧ pfault W H zs ≤ 1000 := by
  unfold pfault
  split
  · decide
  · split
    · decide
    · split <;> decide
theorem is_ne {w : World} {a : Option Addr} {n : Nat} {zs : List Int} (h : Ints.Is w a n zs) : ∀ b o, a = some ⟨b, o, none⟩ → n ≠ 0 → b ≠ w.heap.size := fun b o e hn => by
  obtain ⟨b', o', e', hl, _⟩ := h.cells 0 (by omega)
  rw [e] at e'; cases e'
  exact Nat.ne_of_lt hl
theorem is_other3 {w w' : World} {a : Option Addr} {n c : Nat} {zs : List Int} (h : Ints.Is w a n zs) (o : Only c w w') (hne : ∀ b off, a = some ⟨b, off, none⟩ → n ≠ 0 → b ≠ c) : Ints.Is w' a n zs :=
  ⟨h.len, fun i hi => by
    obtain ⟨b, off, e, hlt, hc⟩ := h.cells i hi
    refine ⟨b, off, e, by rw [o.size]; exact hlt, ?_⟩
    rw [← hc]
    unfold World.cell?
    rw [show (⟨b, off + i, none⟩ : Addr).block = b from rfl, o.block b (hne b off e (by omega))], h.le⟩
set_option maxHeartbeats 16000000 in
set_option maxRecDepth 1000000 in
theorem pback_bad (W H : Int) (a : Option Addr) (n c : Nat) (zs : List Int) (k : Int) (w : World) (hT : Tab w) (hU : UTabs w) (hM : Marks w) (hZ : Ints.Is w a n zs) (hc : n ≤ c) (hf : pfault W H zs ≠ 0) :
    Calls Tryd.prog 6 #[.agg #[.int .i64 W, .int .i64 H, .slice a n c], .int .i64 k] w fun e w' => e = .returned (.bool true) ∧ Below w.heap.size w w' := by
  have K1 := Lib.hid (fun w2 (h : Below w.heap.size w w2) => Runs_bad W H a n c zs w2 (hZ.keep h) hf)
  have hev : errV (pfault W H zs) = .iface 59 (.int .i64 (pfault W H zs)) := errV_some hf
  rw [hev] at K1
  clear hT hU hM hZ hf hc hev
  generalize pfault W H zs = ev at *
  go_enter Tryd.func6, Tryd.ntmps6
  go_upto_region 1 with fail
  have HP : Hid (Row (w.alloc (.cells #[.int .i64 W, .int .i64 H, .slice a n c] 35)) w.heap.size 35 (boxP W H a n c)) := Lib.hid (row_alloc w _ (boxP W H a n c))
  have HB : Hid (Below w.heap.size w (w.alloc (.cells #[.int .i64 W, .int .i64 H, .slice a n c] 35))) := Lib.hid ((Below.refl _ _).alloc (Nat.le_refl _) _)
  generalize w.alloc (.cells #[.int .i64 W, .int .i64 H, .slice a n c] 35) = w0 at *
  obtain ⟨pb, hpb⟩ : ∃ pb, pb = w.heap.size := ⟨_, rfl⟩
  rw [← hpb] at HP ⊢
  clear hpb
  go_wp2_with fail
  refine (fact_any w0).mono ?_
  rintro e1 w1 ⟨⟨a0, c0, rfl, hi0⟩, hb1⟩
  have HI0 := Lib.hid hi0
  clear hi0
  have HP := Lib.hid (HP.out.keep hb1 HP.out.lt)
  have HB := Lib.hid (HB.out.trans (hb1.mono HB.out.size))
  clear hb1
  have HNHF : Hid (pb ≠ w1.heap.size ∧ w.heap.size ≤ w1.heap.size) := Lib.hid ⟨Nat.ne_of_lt HP.out.lt, HB.out.size⟩
  have HNHFHI0 := Lib.hid (is_ne HI0.out)
  go_upto_region 2 with fail
  have hrx : Row (w1.alloc (.cells #[.int .i64 2, .int .i64 1, .slice a0 2 c0] 35)) w1.heap.size 35 (boxP 2 1 a0 2 c0) := row_alloc w1 _ _
  have hbx : Below w1.heap.size w1 (w1.alloc (.cells #[.int .i64 2, .int .i64 1, .slice a0 2 c0] 35)) := (Below.refl _ _).alloc (Nat.le_refl _) _
  have HP := Lib.hid (HP.out.keep hbx HP.out.lt)
  have HI0 := Lib.hid (HI0.out.keep hbx)
  have HB := Lib.hid (HB.out.trans (hbx.mono HB.out.size))
  clear hbx
  have HF := Lib.hid hrx
  clear hrx
  generalize w1.alloc (.cells #[.int .i64 2, .int .i64 1, .slice a0 2 c0] 35) = w2 at *
  obtain ⟨fb, hfb⟩ : ∃ fb, fb = w1.heap.size := ⟨_, rfl⟩
  rw [← hfb] at HF HNHF HNHFHI0 ⊢
  clear hfb
  obtain ⟨b0, o0, e0, _, hc1⟩ := HI0.out.cells 1 (by decide)
  subst e0
  have hc1 := (hc1 : _ = some (Value.int .i64 1))
  have f0 := HF.out.cell 0
  have f1 := HF.out.cell 1
  have f2 := HF.out.cell 2
  unfold boxP at f0 f1 f2
  dsimp only [List.getElem?_cons_succ, List.getElem?_cons_zero] at f0 f1 f2
  go_upto_region 4 with fail
  clear hc1 f0 f1 f2
  clear HF HI0
  have l0 := row_range HP.out
  go_wp2_with (first | (refine wpList_load_mid rfl 35 _ rfl pb 0 rfl _ _ l0 Tryd.underlying35 rfl infoPat ?_))
  refine (K1.out w2 HB.out).mono ?_
  rintro e3 w3 ⟨rfl, hb3⟩
  clear l0
  have HP := Lib.hid (HP.out.keep hb3 HP.out.lt)
  have HB := Lib.hid (HB.out.trans (hb3.mono HB.out.size))
  clear hb3
  clear HP
  go_wp2_with fail
  go_ret
  exact ⟨rfl, HB.out⟩
set_option maxHeartbeats 16000000 in
set_option maxRecDepth 1000000 in
theorem pback_far (W H : Nat) (a : Option Addr) (n c : Nat) (f : Nat → Nat → Nat) (k : Int) (hk : k < 0 ∨ 7 < k) (hE : ¬ (H = 0 ∧ W ≠ 0)) (w : World) (hT : Tab w) (hU : UTabs w) (hM : Marks w) (hZ : Ints.Is w a n (flat W H f)) (hn : n = W * H) (hc : n ≤ c) (hW : W ≤ 100) (hH : H ≤ 100) (hf : ∀ x y, f x y < 2) (hp : pfault W H (flat W H f) = 0) :
    Calls Tryd.prog 6 #[.agg #[.int .i64 W, .int .i64 H, .slice a n c], .int .i64 k] w fun e w' => e = .returned (.bool true) ∧ Below w.heap.size w w' := by
  have K1 := Lib.hid (fun w2 (h : Below w.heap.size w w2) => Runs_ok W H a n c f w2 (hT.keep h) (hZ.keep h) hn hc hW hH hf hp)
  have K2 := Lib.hid (fun w2 => read_runs W H f w2 hW hH hf)
  have K3 := Lib.hid (fun w2 (h : Below w.heap.size w w2) => Draw_ok W H a n c f w2 (hM.keep h) (hZ.keep h) hn hW hH hf hp)
  have K4 := Lib.hid (fun w2 (h : Below w.heap.size w w2) => read_draw W H f w2 (hU.keep h) (hM.keep h) hW hH hf)
  have KB := Lib.hid (fun (a2 : Option Addr) (n2 c2 : Nat) w2 (h : Below w.heap.size w w2) h2 => back_same W H a n c a2 n2 c2 (flat W H f) w2 (hZ.keep h) h2)
  have hW0 : (if H = 0 then 0 else W : Nat) = W := by
    split
    · omega
    · rfl
  rw [hW0] at K4
  clear hW0
  have ht : tfl W H (flat W H f) k = 1 := by unfold tfl; rw [if_neg (fun x => x hp), if_pos hk]
  have K5 := Lib.hid (fun w2 (h : Below w.heap.size w w2) => Turn_bad W H a n c (flat W H f) k w2 (hZ.keep h) (by rw [ht]; decide))
  rw [ht, errV_some (by decide)] at K5
  clear ht hk
  generalize ByteArray.mk (runsS W H f).toArray = sr at *
  generalize ByteArray.mk (drawS W H f).toArray = sd at *
  generalize flat W H f = zp at *
  clear hT hU hZ hc hM hn hW hH hf hp hE
  go_enter Tryd.func6, Tryd.ntmps6
  go_upto_region 1 with fail
  have HP : Hid (Row (w.alloc (.cells #[.int .i64 W, .int .i64 H, .slice a n c] 35)) w.heap.size 35 (boxP W H a n c)) := Lib.hid (row_alloc w _ (boxP W H a n c))
  have HB : Hid (Below w.heap.size w (w.alloc (.cells #[.int .i64 W, .int .i64 H, .slice a n c] 35))) := Lib.hid ((Below.refl _ _).alloc (Nat.le_refl _) _)
  generalize w.alloc (.cells #[.int .i64 W, .int .i64 H, .slice a n c] 35) = w0 at *
  obtain ⟨pb, hpb⟩ : ∃ pb, pb = w.heap.size := ⟨_, rfl⟩
  rw [← hpb] at HP ⊢
  clear hpb
  go_wp2_with fail
  refine (fact_any w0).mono ?_
  rintro e1 w1 ⟨⟨a0, c0, rfl, hi0⟩, hb1⟩
  have HI0 := Lib.hid hi0
  clear hi0
  have HP := Lib.hid (HP.out.keep hb1 HP.out.lt)
  have HB := Lib.hid (HB.out.trans (hb1.mono HB.out.size))
  clear hb1
  have HNHF : Hid (pb ≠ w1.heap.size ∧ w.heap.size ≤ w1.heap.size) := Lib.hid ⟨Nat.ne_of_lt HP.out.lt, HB.out.size⟩
  have HNHFHI0 := Lib.hid (is_ne HI0.out)
  go_upto_region 2 with fail
  have hrx : Row (w1.alloc (.cells #[.int .i64 2, .int .i64 1, .slice a0 2 c0] 35)) w1.heap.size 35 (boxP 2 1 a0 2 c0) := row_alloc w1 _ _
  have hbx : Below w1.heap.size w1 (w1.alloc (.cells #[.int .i64 2, .int .i64 1, .slice a0 2 c0] 35)) := (Below.refl _ _).alloc (Nat.le_refl _) _
  have HP := Lib.hid (HP.out.keep hbx HP.out.lt)
  have HI0 := Lib.hid (HI0.out.keep hbx)
  have HB := Lib.hid (HB.out.trans (hbx.mono HB.out.size))
  clear hbx
  have HF := Lib.hid hrx
  clear hrx
  generalize w1.alloc (.cells #[.int .i64 2, .int .i64 1, .slice a0 2 c0] 35) = w2 at *
  obtain ⟨fb, hfb⟩ : ∃ fb, fb = w1.heap.size := ⟨_, rfl⟩
  rw [← hfb] at HF HNHF HNHFHI0 ⊢
  clear hfb
  obtain ⟨b0, o0, e0, _, hc1⟩ := HI0.out.cells 1 (by decide)
  subst e0
  have hc1 := (hc1 : _ = some (Value.int .i64 1))
  have f0 := HF.out.cell 0
  have f1 := HF.out.cell 1
  have f2 := HF.out.cell 2
  unfold boxP at f0 f1 f2
  dsimp only [List.getElem?_cons_succ, List.getElem?_cons_zero] at f0 f1 f2
  go_upto_region 4 with fail
  clear hc1 f0 f1 f2
  clear HF HI0
  have l0 := row_range HP.out
  go_wp2_with (first | (refine wpList_load_mid rfl 35 _ rfl pb 0 rfl _ _ l0 Tryd.underlying35 rfl infoPat ?_))
  refine (K1.out w2 HB.out).mono ?_
  rintro e3 w3 ⟨rfl, hb3⟩
  clear l0
  have HP := Lib.hid (HP.out.keep hb3 HP.out.lt)
  have HB := Lib.hid (HB.out.trans (hb3.mono HB.out.size))
  clear hb3
  go_wp2_with fail
  refine (K2.out w3).mono ?_
  rintro e4 w4 ⟨⟨a1, n1, c1, rfl, hi1⟩, hb4⟩
  have HI1 := Lib.hid hi1
  clear hi1
  have HP := Lib.hid (HP.out.keep hb4 HP.out.lt)
  have HB := Lib.hid (HB.out.trans (hb4.mono HB.out.size))
  clear hb4
  have HNHQ : Hid (pb ≠ w4.heap.size ∧ w.heap.size ≤ w4.heap.size) := Lib.hid ⟨Nat.ne_of_lt HP.out.lt, HB.out.size⟩
  have HNHQHI1 := Lib.hid (is_ne HI1.out)
  go_upto_region 8 with fail
  have hrx : Row (w4.alloc (.cells #[.int .i64 W, .int .i64 H, .slice a1 n1 c1] 35)) w4.heap.size 35 (boxP W H a1 n1 c1) := row_alloc w4 _ _
  have hbx : Below w4.heap.size w4 (w4.alloc (.cells #[.int .i64 W, .int .i64 H, .slice a1 n1 c1] 35)) := (Below.refl _ _).alloc (Nat.le_refl _) _
  have HP := Lib.hid (HP.out.keep hbx HP.out.lt)
  have HI1 := Lib.hid (HI1.out.keep hbx)
  have HB := Lib.hid (HB.out.trans (hbx.mono HB.out.size))
  clear hbx
  have HQ := Lib.hid hrx
  clear hrx
  generalize w4.alloc (.cells #[.int .i64 W, .int .i64 H, .slice a1 n1 c1] 35) = w5 at *
  obtain ⟨qb, hqb⟩ : ∃ qb, qb = w4.heap.size := ⟨_, rfl⟩
  rw [← hqb] at HQ HNHQ HNHQHI1 ⊢
  clear hqb
  have l0 := row_range HP.out
  have l1 := row_range HQ.out
  go_wp2_with (first | (refine wpList_load_mid rfl 35 _ rfl pb 0 rfl _ _ l0 Tryd.underlying35 rfl infoPat ?_) | (refine wpList_load_mid rfl 35 _ rfl qb 0 rfl _ _ l1 Tryd.underlying35 rfl infoPat ?_))
  refine (KB.out _ _ _ w5 HB.out HI1.out).mono ?_
  rintro e6 w6 ⟨rfl, hb6⟩
  clear l0 l1
  have HP := Lib.hid (HP.out.keep hb6 HP.out.lt)
  have HQ := Lib.hid (HQ.out.keep hb6 HQ.out.lt)
  have HI1 := Lib.hid (HI1.out.keep hb6)
  have HB := Lib.hid (HB.out.trans (hb6.mono HB.out.size))
  clear hb6
  clear HI1
  have l0 := row_range HP.out
  go_wp2_with (first | (refine wpList_load_mid rfl 35 _ rfl pb 0 rfl _ _ l0 Tryd.underlying35 rfl infoPat ?_))
  refine (K3.out w6 HB.out).mono ?_
  rintro e7 w7 ⟨rfl, hb7⟩
  clear l0
  have HP := Lib.hid (HP.out.keep hb7 HP.out.lt)
  have HQ := Lib.hid (HQ.out.keep hb7 HQ.out.lt)
  have HB := Lib.hid (HB.out.trans (hb7.mono HB.out.size))
  clear hb7
  go_wp2_with fail
  refine (K4.out w7 HB.out).mono ?_
  rintro e8 w8 ⟨⟨a2, n2, c2, rfl, hi2, hb2x⟩, hb8⟩
  have HI2 := Lib.hid hi2
  have HAB2 : Hid (∀ b o, a2 = some ⟨b, o, none⟩ → n2 ≠ 0 → b ≠ qb) := Lib.hid (fun b o e h0 => by have := hb2x b o e h0; have := HQ.out.lt; omega)
  clear hi2 hb2x
  have HP := Lib.hid (HP.out.keep hb8 HP.out.lt)
  have HQ := Lib.hid (HQ.out.keep hb8 HQ.out.lt)
  have HB := Lib.hid (HB.out.trans (hb8.mono HB.out.size))
  clear hb8
  have hrs := HQ.out
  go_upto_region 13 with (refine Ops.wpList_store_arr rfl 35 _ _ rfl qb rfl 35 _ (boxP W H a2 n2 c2) rfl hrs rfl infoPat (boxP_one _ _ _ _ _) ?_; intro w9 hrn hon)
  clear hrs
  have HP := Lib.hid (HP.out.other hon HNHQ.out.1)
  have HI2 := Lib.hid (is_other3 HI2.out hon HAB2.out)
  have HB := Lib.hid (HB.out.trans (hon.below HNHQ.out.2))
  have HQ := Lib.hid hrn
  clear hrn hon
  have l0 := row_range HP.out
  have l1 := row_range HQ.out
  go_wp2_with (first | (refine wpList_load_mid rfl 35 _ rfl pb 0 rfl _ _ l0 Tryd.underlying35 rfl infoPat ?_) | (refine wpList_load_mid rfl 35 _ rfl qb 0 rfl _ _ l1 Tryd.underlying35 rfl infoPat ?_))
  refine (KB.out _ _ _ w9 HB.out HI2.out).mono ?_
  rintro e10 w10 ⟨rfl, hb10⟩
  clear l0 l1
  have HP := Lib.hid (HP.out.keep hb10 HP.out.lt)
  have HQ := Lib.hid (HQ.out.keep hb10 HQ.out.lt)
  have HB := Lib.hid (HB.out.trans (hb10.mono HB.out.size))
  clear hb10
  clear HI2 HAB2
  clear HQ
  go_upto_region 16 with fail
  have l0 := row_range HP.out
  go_wp2_with (first | (refine wpList_load_mid rfl 35 _ rfl pb 0 rfl _ _ l0 Tryd.underlying35 rfl infoPat ?_))
  refine (K5.out w10 HB.out).mono ?_
  rintro e11 w11 ⟨rfl, hb11⟩
  clear l0
  have HP := Lib.hid (HP.out.keep hb11 HP.out.lt)
  have HB := Lib.hid (HB.out.trans (hb11.mono HB.out.size))
  clear hb11
  have HNHU : Hid (pb ≠ w11.heap.size ∧ w.heap.size ≤ w11.heap.size) := Lib.hid ⟨Nat.ne_of_lt HP.out.lt, HB.out.size⟩
  go_upto_region 17 with fail
  have hrx : Row (w11.alloc (.cells #[.int .i64 0, .int .i64 0, .slice none 0 0] 35)) w11.heap.size 35 (noPat) := row_alloc w11 _ _
  have hbx : Below w11.heap.size w11 (w11.alloc (.cells #[.int .i64 0, .int .i64 0, .slice none 0 0] 35)) := (Below.refl _ _).alloc (Nat.le_refl _) _
  have HP := Lib.hid (HP.out.keep hbx HP.out.lt)
  have HB := Lib.hid (HB.out.trans (hbx.mono HB.out.size))
  clear hbx
  have HU := Lib.hid hrx
  clear hrx
  generalize w11.alloc (.cells #[.int .i64 0, .int .i64 0, .slice none 0 0] 35) = w12 at *
  obtain ⟨ub, hub⟩ : ∃ ub, ub = w11.heap.size := ⟨_, rfl⟩
  rw [← hub] at HU HNHU  ⊢
  clear hub
  clear HP HU
  go_wp2_with fail
  go_ret
  exact ⟨rfl, HB.out⟩
set_option maxHeartbeats 16000000 in
set_option maxRecDepth 1000000 in
theorem pback_far_e (W H : Nat) (a : Option Addr) (n c : Nat) (f : Nat → Nat → Nat) (k : Int) (hk : k < 0 ∨ 7 < k) (hE : H = 0 ∧ W ≠ 0) (w : World) (hT : Tab w) (hU : UTabs w) (hM : Marks w) (hZ : Ints.Is w a n (flat W H f)) (hn : n = W * H) (hc : n ≤ c) (hW : W ≤ 100) (hH : H ≤ 100) (hf : ∀ x y, f x y < 2) (hp : pfault W H (flat W H f) = 0) :
    Calls Tryd.prog 6 #[.agg #[.int .i64 W, .int .i64 H, .slice a n c], .int .i64 k] w fun e w' => e = .returned (.bool true) ∧ Below w.heap.size w w' := by
  have K1 := Lib.hid (fun w2 (h : Below w.heap.size w w2) => Runs_ok W H a n c f w2 (hT.keep h) (hZ.keep h) hn hc hW hH hf hp)
  have K2 := Lib.hid (fun w2 => read_runs W H f w2 hW hH hf)
  have K3 := Lib.hid (fun w2 (h : Below w.heap.size w w2) => Draw_ok W H a n c f w2 (hM.keep h) (hZ.keep h) hn hW hH hf hp)
  have K4 := Lib.hid (fun w2 (h : Below w.heap.size w w2) => read_draw W H f w2 (hU.keep h) (hM.keep h) hW hH hf)
  have KB := Lib.hid (fun (a2 : Option Addr) (n2 c2 : Nat) w2 (h : Below w.heap.size w w2) h2 => back_same W H a n c a2 n2 c2 (flat W H f) w2 (hZ.keep h) h2)
  have hW0 : (W : Int) ≠ ((if H = 0 then 0 else W : Nat) : Int) := by rw [if_pos hE.1]; have := hE.2; omega
  have KC := Lib.hid (fun (a2 : Option Addr) (n2 c2 : Nat) w2 (h : Below w.heap.size w w2) h2 => back_other W H a n c _ hW0 a2 n2 c2 (flat W H f) w2 (hZ.keep h) h2)
  have hz0 : ¬ (0 : Int) < (H : Int) := by have := hE.1; omega
  generalize (if H = 0 then 0 else W : Nat) = W0 at *
  clear hW0
  have ht : tfl W H (flat W H f) k = 1 := by unfold tfl; rw [if_neg (fun x => x hp), if_pos hk]
  have K5 := Lib.hid (fun w2 (h : Below w.heap.size w w2) => Turn_bad W H a n c (flat W H f) k w2 (hZ.keep h) (by rw [ht]; decide))
  rw [ht, errV_some (by decide)] at K5
  clear ht hk
  generalize ByteArray.mk (runsS W H f).toArray = sr at *
  generalize ByteArray.mk (drawS W H f).toArray = sd at *
  generalize flat W H f = zp at *
  clear hT hU hZ hc hM hn hW hH hf hp hE
  go_enter Tryd.func6, Tryd.ntmps6
  go_upto_region 1 with fail
  have HP : Hid (Row (w.alloc (.cells #[.int .i64 W, .int .i64 H, .slice a n c] 35)) w.heap.size 35 (boxP W H a n c)) := Lib.hid (row_alloc w _ (boxP W H a n c))
  have HB : Hid (Below w.heap.size w (w.alloc (.cells #[.int .i64 W, .int .i64 H, .slice a n c] 35))) := Lib.hid ((Below.refl _ _).alloc (Nat.le_refl _) _)
  generalize w.alloc (.cells #[.int .i64 W, .int .i64 H, .slice a n c] 35) = w0 at *
  obtain ⟨pb, hpb⟩ : ∃ pb, pb = w.heap.size := ⟨_, rfl⟩
  rw [← hpb] at HP ⊢
  clear hpb
  go_wp2_with fail
  refine (fact_any w0).mono ?_
  rintro e1 w1 ⟨⟨a0, c0, rfl, hi0⟩, hb1⟩
  have HI0 := Lib.hid hi0
  clear hi0
  have HP := Lib.hid (HP.out.keep hb1 HP.out.lt)
  have HB := Lib.hid (HB.out.trans (hb1.mono HB.out.size))
  clear hb1
  have HNHF : Hid (pb ≠ w1.heap.size ∧ w.heap.size ≤ w1.heap.size) := Lib.hid ⟨Nat.ne_of_lt HP.out.lt, HB.out.size⟩
  have HNHFHI0 := Lib.hid (is_ne HI0.out)
  go_upto_region 2 with fail
  have hrx : Row (w1.alloc (.cells #[.int .i64 2, .int .i64 1, .slice a0 2 c0] 35)) w1.heap.size 35 (boxP 2 1 a0 2 c0) := row_alloc w1 _ _
  have hbx : Below w1.heap.size w1 (w1.alloc (.cells #[.int .i64 2, .int .i64 1, .slice a0 2 c0] 35)) := (Below.refl _ _).alloc (Nat.le_refl _) _
  have HP := Lib.hid (HP.out.keep hbx HP.out.lt)
  have HI0 := Lib.hid (HI0.out.keep hbx)
  have HB := Lib.hid (HB.out.trans (hbx.mono HB.out.size))
  clear hbx
  have HF := Lib.hid hrx
  clear hrx
  generalize w1.alloc (.cells #[.int .i64 2, .int .i64 1, .slice a0 2 c0] 35) = w2 at *
  obtain ⟨fb, hfb⟩ : ∃ fb, fb = w1.heap.size := ⟨_, rfl⟩
  rw [← hfb] at HF HNHF HNHFHI0 ⊢
  clear hfb
  obtain ⟨b0, o0, e0, _, hc1⟩ := HI0.out.cells 1 (by decide)
  subst e0
  have hc1 := (hc1 : _ = some (Value.int .i64 1))
  have f0 := HF.out.cell 0
  have f1 := HF.out.cell 1
  have f2 := HF.out.cell 2
  unfold boxP at f0 f1 f2
  dsimp only [List.getElem?_cons_succ, List.getElem?_cons_zero] at f0 f1 f2
  go_upto_region 4 with fail
  clear hc1 f0 f1 f2
  clear HF HI0
  have l0 := row_range HP.out
  go_wp2_with (first | (refine wpList_load_mid rfl 35 _ rfl pb 0 rfl _ _ l0 Tryd.underlying35 rfl infoPat ?_))
  refine (K1.out w2 HB.out).mono ?_
  rintro e3 w3 ⟨rfl, hb3⟩
  clear l0
  have HP := Lib.hid (HP.out.keep hb3 HP.out.lt)
  have HB := Lib.hid (HB.out.trans (hb3.mono HB.out.size))
  clear hb3
  go_wp2_with fail
  refine (K2.out w3).mono ?_
  rintro e4 w4 ⟨⟨a1, n1, c1, rfl, hi1⟩, hb4⟩
  have HI1 := Lib.hid hi1
  clear hi1
  have HP := Lib.hid (HP.out.keep hb4 HP.out.lt)
  have HB := Lib.hid (HB.out.trans (hb4.mono HB.out.size))
  clear hb4
  have HNHQ : Hid (pb ≠ w4.heap.size ∧ w.heap.size ≤ w4.heap.size) := Lib.hid ⟨Nat.ne_of_lt HP.out.lt, HB.out.size⟩
  have HNHQHI1 := Lib.hid (is_ne HI1.out)
  go_upto_region 8 with fail
  have hrx : Row (w4.alloc (.cells #[.int .i64 W, .int .i64 H, .slice a1 n1 c1] 35)) w4.heap.size 35 (boxP W H a1 n1 c1) := row_alloc w4 _ _
  have hbx : Below w4.heap.size w4 (w4.alloc (.cells #[.int .i64 W, .int .i64 H, .slice a1 n1 c1] 35)) := (Below.refl _ _).alloc (Nat.le_refl _) _
  have HP := Lib.hid (HP.out.keep hbx HP.out.lt)
  have HI1 := Lib.hid (HI1.out.keep hbx)
  have HB := Lib.hid (HB.out.trans (hbx.mono HB.out.size))
  clear hbx
  have HQ := Lib.hid hrx
  clear hrx
  generalize w4.alloc (.cells #[.int .i64 W, .int .i64 H, .slice a1 n1 c1] 35) = w5 at *
  obtain ⟨qb, hqb⟩ : ∃ qb, qb = w4.heap.size := ⟨_, rfl⟩
  rw [← hqb] at HQ HNHQ HNHQHI1 ⊢
  clear hqb
  have l0 := row_range HP.out
  have l1 := row_range HQ.out
  go_wp2_with (first | (refine wpList_load_mid rfl 35 _ rfl pb 0 rfl _ _ l0 Tryd.underlying35 rfl infoPat ?_) | (refine wpList_load_mid rfl 35 _ rfl qb 0 rfl _ _ l1 Tryd.underlying35 rfl infoPat ?_))
  refine (KB.out _ _ _ w5 HB.out HI1.out).mono ?_
  rintro e6 w6 ⟨rfl, hb6⟩
  clear l0 l1
  have HP := Lib.hid (HP.out.keep hb6 HP.out.lt)
  have HQ := Lib.hid (HQ.out.keep hb6 HQ.out.lt)
  have HI1 := Lib.hid (HI1.out.keep hb6)
  have HB := Lib.hid (HB.out.trans (hb6.mono HB.out.size))
  clear hb6
  clear HI1
  have l0 := row_range HP.out
  go_wp2_with (first | (refine wpList_load_mid rfl 35 _ rfl pb 0 rfl _ _ l0 Tryd.underlying35 rfl infoPat ?_))
  refine (K3.out w6 HB.out).mono ?_
  rintro e7 w7 ⟨rfl, hb7⟩
  clear l0
  have HP := Lib.hid (HP.out.keep hb7 HP.out.lt)
  have HQ := Lib.hid (HQ.out.keep hb7 HQ.out.lt)
  have HB := Lib.hid (HB.out.trans (hb7.mono HB.out.size))
  clear hb7
  go_wp2_with fail
  refine (K4.out w7 HB.out).mono ?_
  rintro e8 w8 ⟨⟨a2, n2, c2, rfl, hi2, hb2x⟩, hb8⟩
  have HI2 := Lib.hid hi2
  have HAB2 : Hid (∀ b o, a2 = some ⟨b, o, none⟩ → n2 ≠ 0 → b ≠ qb) := Lib.hid (fun b o e h0 => by have := hb2x b o e h0; have := HQ.out.lt; omega)
  clear hi2 hb2x
  have HP := Lib.hid (HP.out.keep hb8 HP.out.lt)
  have HQ := Lib.hid (HQ.out.keep hb8 HQ.out.lt)
  have HB := Lib.hid (HB.out.trans (hb8.mono HB.out.size))
  clear hb8
  have hrs := HQ.out
  go_upto_region 13 with (refine Ops.wpList_store_arr rfl 35 _ _ rfl qb rfl 35 _ (boxP W0 H a2 n2 c2) rfl hrs rfl infoPat (boxP_one _ _ _ _ _) ?_; intro w9 hrn hon)
  clear hrs
  have HP := Lib.hid (HP.out.other hon HNHQ.out.1)
  have HI2 := Lib.hid (is_other3 HI2.out hon HAB2.out)
  have HB := Lib.hid (HB.out.trans (hon.below HNHQ.out.2))
  have HQ := Lib.hid hrn
  clear hrn hon
  have l0 := row_range HP.out
  have l1 := row_range HQ.out
  go_wp2_with (first | (refine wpList_load_mid rfl 35 _ rfl pb 0 rfl _ _ l0 Tryd.underlying35 rfl infoPat ?_) | (refine wpList_load_mid rfl 35 _ rfl qb 0 rfl _ _ l1 Tryd.underlying35 rfl infoPat ?_))
  refine (KC.out _ _ _ w9 HB.out HI2.out).mono ?_
  rintro e10 w10 ⟨rfl, hb10⟩
  clear l0 l1
  have HP := Lib.hid (HP.out.keep hb10 HP.out.lt)
  have HQ := Lib.hid (HQ.out.keep hb10 HQ.out.lt)
  have HB := Lib.hid (HB.out.trans (hb10.mono HB.out.size))
  clear hb10
  clear HI2 HAB2
  clear HQ
  have p1 := HP.out.cell 1
  unfold boxP at p1
  dsimp only [List.getElem?_cons_succ, List.getElem?_cons_zero] at p1
  go_upto_region 16 with fail
  clear p1
  have l0 := row_range HP.out
  go_wp2_with (first | (refine wpList_load_mid rfl 35 _ rfl pb 0 rfl _ _ l0 Tryd.underlying35 rfl infoPat ?_))
  refine (K5.out w10 HB.out).mono ?_
  rintro e11 w11 ⟨rfl, hb11⟩
  clear l0
  have HP := Lib.hid (HP.out.keep hb11 HP.out.lt)
  have HB := Lib.hid (HB.out.trans (hb11.mono HB.out.size))
  clear hb11
  have HNHU : Hid (pb ≠ w11.heap.size ∧ w.heap.size ≤ w11.heap.size) := Lib.hid ⟨Nat.ne_of_lt HP.out.lt, HB.out.size⟩
  go_upto_region 17 with fail
  have hrx : Row (w11.alloc (.cells #[.int .i64 0, .int .i64 0, .slice none 0 0] 35)) w11.heap.size 35 (noPat) := row_alloc w11 _ _
  have hbx : Below w11.heap.size w11 (w11.alloc (.cells #[.int .i64 0, .int .i64 0, .slice none 0 0] 35)) := (Below.refl _ _).alloc (Nat.le_refl _) _
  have HP := Lib.hid (HP.out.keep hbx HP.out.lt)
  have HB := Lib.hid (HB.out.trans (hbx.mono HB.out.size))
  clear hbx
  have HU := Lib.hid hrx
  clear hrx
  generalize w11.alloc (.cells #[.int .i64 0, .int .i64 0, .slice none 0 0] 35) = w12 at *
  obtain ⟨ub, hub⟩ : ∃ ub, ub = w11.heap.size := ⟨_, rfl⟩
  rw [← hub] at HU HNHU  ⊢
  clear hub
  clear HP HU
  go_wp2_with fail
  go_ret
  exact ⟨rfl, HB.out⟩
set_option maxHeartbeats 16000000 in
set_option maxRecDepth 1000000 in
theorem pback_low (W H : Nat) (a : Option Addr) (n c : Nat) (f : Nat → Nat → Nat) (k : Nat) (hk : k < 4) (hE : ¬ (H = 0 ∧ W ≠ 0)) (w : World) (hT : Tab w) (hU : UTabs w) (hM : Marks w) (hZ : Ints.Is w a n (flat W H f)) (hn : n = W * H) (hc : n ≤ c) (hW : W ≤ 100) (hH : H ≤ 100) (hf : ∀ x y, f x y < 2) (hp : pfault W H (flat W H f) = 0) :
    Calls Tryd.prog 6 #[.agg #[.int .i64 W, .int .i64 H, .slice a n c], .int .i64 k] w fun e w' => e = .returned (.bool true) ∧ Below w.heap.size w w' := by
  have K1 := Lib.hid (fun w2 (h : Below w.heap.size w w2) => Runs_ok W H a n c f w2 (hT.keep h) (hZ.keep h) hn hc hW hH hf hp)
  have K2 := Lib.hid (fun w2 => read_runs W H f w2 hW hH hf)
  have K3 := Lib.hid (fun w2 (h : Below w.heap.size w w2) => Draw_ok W H a n c f w2 (hM.keep h) (hZ.keep h) hn hW hH hf hp)
  have K4 := Lib.hid (fun w2 (h : Below w.heap.size w w2) => read_draw W H f w2 (hU.keep h) (hM.keep h) hW hH hf)
  have KB := Lib.hid (fun (a2 : Option Addr) (n2 c2 : Nat) w2 (h : Below w.heap.size w w2) h2 => back_same W H a n c a2 n2 c2 (flat W H f) w2 (hZ.keep h) h2)
  have hW0 : (if H = 0 then 0 else W : Nat) = W := by
    split
    · omega
    · rfl
  rw [hW0] at K4
  clear hW0
  have hk8 : k < 8 := by omega
  have K5 := Lib.hid (fun w2 (h : Below w.heap.size w w2) => Turn_ok W H k a n c f w2 (hZ.keep h) hn (by omega) (by omega) hk8 hp)
  have K6 := Lib.hid (fun (a2 : Option Addr) (c2 : Nat) w2 h2 => turn_again W H k n f hn hW hH hf hk8 a2 c2 w2 h2)
  obtain ⟨W1, H1, z1, o1, o2⟩ := canon_two W H k a n c f w hZ hn hc hW hH hf hk8
  have K7 := Lib.hid o1
  have K8 := Lib.hid o2
  have KA := Lib.hid (fun (a1 a2 : Option Addr) (n1 c1 n2 c2 : Nat) w2 h1 h2 => alike_same W1 H1 a1 n1 c1 a2 n2 c2 z1 w2 h1 h2)
  have hk4 : (k : Int) < 4 := by omega
  have HJ3 : Hid ((4 - (k : Int)) % 4 = ((invT k : Nat) : Int)) := Lib.hid (by unfold invT; rw [if_pos hk]; omega)
  generalize qW W H (k % 4) = QW at *
  generalize qH W H (k % 4) = QH at *
  generalize flat QW QH (tF W H f k) = zq at *
  generalize invT k = j at *
  clear o1 o2 hk hk8
  generalize ByteArray.mk (runsS W H f).toArray = sr at *
  generalize ByteArray.mk (drawS W H f).toArray = sd at *
  generalize flat W H f = zp at *
  clear hT hU hZ hc hM hn hW hH hf hp hE
  go_enter Tryd.func6, Tryd.ntmps6
  go_upto_region 1 with fail
  have HP : Hid (Row (w.alloc (.cells #[.int .i64 W, .int .i64 H, .slice a n c] 35)) w.heap.size 35 (boxP W H a n c)) := Lib.hid (row_alloc w _ (boxP W H a n c))
  have HB : Hid (Below w.heap.size w (w.alloc (.cells #[.int .i64 W, .int .i64 H, .slice a n c] 35))) := Lib.hid ((Below.refl _ _).alloc (Nat.le_refl _) _)
  generalize w.alloc (.cells #[.int .i64 W, .int .i64 H, .slice a n c] 35) = w0 at *
  obtain ⟨pb, hpb⟩ : ∃ pb, pb = w.heap.size := ⟨_, rfl⟩
  rw [← hpb] at HP ⊢
  clear hpb
  go_wp2_with fail
  refine (fact_any w0).mono ?_
  rintro e1 w1 ⟨⟨a0, c0, rfl, hi0⟩, hb1⟩
  have HI0 := Lib.hid hi0
  clear hi0
  have HP := Lib.hid (HP.out.keep hb1 HP.out.lt)
  have HB := Lib.hid (HB.out.trans (hb1.mono HB.out.size))
  clear hb1
  have HNHF : Hid (pb ≠ w1.heap.size ∧ w.heap.size ≤ w1.heap.size) := Lib.hid ⟨Nat.ne_of_lt HP.out.lt, HB.out.size⟩
  have HNHFHI0 := Lib.hid (is_ne HI0.out)
  go_upto_region 2 with fail
  have hrx : Row (w1.alloc (.cells #[.int .i64 2, .int .i64 1, .slice a0 2 c0] 35)) w1.heap.size 35 (boxP 2 1 a0 2 c0) := row_alloc w1 _ _
  have hbx : Below w1.heap.size w1 (w1.alloc (.cells #[.int .i64 2, .int .i64 1, .slice a0 2 c0] 35)) := (Below.refl _ _).alloc (Nat.le_refl _) _
  have HP := Lib.hid (HP.out.keep hbx HP.out.lt)
  have HI0 := Lib.hid (HI0.out.keep hbx)
  have HB := Lib.hid (HB.out.trans (hbx.mono HB.out.size))
  clear hbx
  have HF := Lib.hid hrx
  clear hrx
  generalize w1.alloc (.cells #[.int .i64 2, .int .i64 1, .slice a0 2 c0] 35) = w2 at *
  obtain ⟨fb, hfb⟩ : ∃ fb, fb = w1.heap.size := ⟨_, rfl⟩
  rw [← hfb] at HF HNHF HNHFHI0 ⊢
  clear hfb
  obtain ⟨b0, o0, e0, _, hc1⟩ := HI0.out.cells 1 (by decide)
  subst e0
  have hc1 := (hc1 : _ = some (Value.int .i64 1))
  have f0 := HF.out.cell 0
  have f1 := HF.out.cell 1
  have f2 := HF.out.cell 2
  unfold boxP at f0 f1 f2
  dsimp only [List.getElem?_cons_succ, List.getElem?_cons_zero] at f0 f1 f2
  go_upto_region 4 with fail
  clear hc1 f0 f1 f2
  clear HF HI0
  have l0 := row_range HP.out
  go_wp2_with (first | (refine wpList_load_mid rfl 35 _ rfl pb 0 rfl _ _ l0 Tryd.underlying35 rfl infoPat ?_))
  refine (K1.out w2 HB.out).mono ?_
  rintro e3 w3 ⟨rfl, hb3⟩
  clear l0
  have HP := Lib.hid (HP.out.keep hb3 HP.out.lt)
  have HB := Lib.hid (HB.out.trans (hb3.mono HB.out.size))
  clear hb3
  go_wp2_with fail
  refine (K2.out w3).mono ?_
  rintro e4 w4 ⟨⟨a1, n1, c1, rfl, hi1⟩, hb4⟩
  have HI1 := Lib.hid hi1
  clear hi1
  have HP := Lib.hid (HP.out.keep hb4 HP.out.lt)
  have HB := Lib.hid (HB.out.trans (hb4.mono HB.out.size))
  clear hb4
  have HNHQ : Hid (pb ≠ w4.heap.size ∧ w.heap.size ≤ w4.heap.size) := Lib.hid ⟨Nat.ne_of_lt HP.out.lt, HB.out.size⟩
  have HNHQHI1 := Lib.hid (is_ne HI1.out)
  go_upto_region 8 with fail
  have hrx : Row (w4.alloc (.cells #[.int .i64 W, .int .i64 H, .slice a1 n1 c1] 35)) w4.heap.size 35 (boxP W H a1 n1 c1) := row_alloc w4 _ _
  have hbx : Below w4.heap.size w4 (w4.alloc (.cells #[.int .i64 W, .int .i64 H, .slice a1 n1 c1] 35)) := (Below.refl _ _).alloc (Nat.le_refl _) _
  have HP := Lib.hid (HP.out.keep hbx HP.out.lt)
  have HI1 := Lib.hid (HI1.out.keep hbx)
  have HB := Lib.hid (HB.out.trans (hbx.mono HB.out.size))
  clear hbx
  have HQ := Lib.hid hrx
  clear hrx
  generalize w4.alloc (.cells #[.int .i64 W, .int .i64 H, .slice a1 n1 c1] 35) = w5 at *
  obtain ⟨qb, hqb⟩ : ∃ qb, qb = w4.heap.size := ⟨_, rfl⟩
  rw [← hqb] at HQ HNHQ HNHQHI1 ⊢
  clear hqb
  have l0 := row_range HP.out
  have l1 := row_range HQ.out
  go_wp2_with (first | (refine wpList_load_mid rfl 35 _ rfl pb 0 rfl _ _ l0 Tryd.underlying35 rfl infoPat ?_) | (refine wpList_load_mid rfl 35 _ rfl qb 0 rfl _ _ l1 Tryd.underlying35 rfl infoPat ?_))
  refine (KB.out _ _ _ w5 HB.out HI1.out).mono ?_
  rintro e6 w6 ⟨rfl, hb6⟩
  clear l0 l1
  have HP := Lib.hid (HP.out.keep hb6 HP.out.lt)
  have HQ := Lib.hid (HQ.out.keep hb6 HQ.out.lt)
  have HI1 := Lib.hid (HI1.out.keep hb6)
  have HB := Lib.hid (HB.out.trans (hb6.mono HB.out.size))
  clear hb6
  clear HI1
  have l0 := row_range HP.out
  go_wp2_with (first | (refine wpList_load_mid rfl 35 _ rfl pb 0 rfl _ _ l0 Tryd.underlying35 rfl infoPat ?_))
  refine (K3.out w6 HB.out).mono ?_
  rintro e7 w7 ⟨rfl, hb7⟩
  clear l0
  have HP := Lib.hid (HP.out.keep hb7 HP.out.lt)
  have HQ := Lib.hid (HQ.out.keep hb7 HQ.out.lt)
  have HB := Lib.hid (HB.out.trans (hb7.mono HB.out.size))
  clear hb7
  go_wp2_with fail
  refine (K4.out w7 HB.out).mono ?_
  rintro e8 w8 ⟨⟨a2, n2, c2, rfl, hi2, hb2x⟩, hb8⟩
  have HI2 := Lib.hid hi2
  have HAB2 : Hid (∀ b o, a2 = some ⟨b, o, none⟩ → n2 ≠ 0 → b ≠ qb) := Lib.hid (fun b o e h0 => by have := hb2x b o e h0; have := HQ.out.lt; omega)
  clear hi2 hb2x
  have HP := Lib.hid (HP.out.keep hb8 HP.out.lt)
  have HQ := Lib.hid (HQ.out.keep hb8 HQ.out.lt)
  have HB := Lib.hid (HB.out.trans (hb8.mono HB.out.size))
  clear hb8
  have hrs := HQ.out
  go_upto_region 13 with (refine Ops.wpList_store_arr rfl 35 _ _ rfl qb rfl 35 _ (boxP W H a2 n2 c2) rfl hrs rfl infoPat (boxP_one _ _ _ _ _) ?_; intro w9 hrn hon)
  clear hrs
  have HP := Lib.hid (HP.out.other hon HNHQ.out.1)
  have HI2 := Lib.hid (is_other3 HI2.out hon HAB2.out)
  have HB := Lib.hid (HB.out.trans (hon.below HNHQ.out.2))
  have HQ := Lib.hid hrn
  clear hrn hon
  have l0 := row_range HP.out
  have l1 := row_range HQ.out
  go_wp2_with (first | (refine wpList_load_mid rfl 35 _ rfl pb 0 rfl _ _ l0 Tryd.underlying35 rfl infoPat ?_) | (refine wpList_load_mid rfl 35 _ rfl qb 0 rfl _ _ l1 Tryd.underlying35 rfl infoPat ?_))
  refine (KB.out _ _ _ w9 HB.out HI2.out).mono ?_
  rintro e10 w10 ⟨rfl, hb10⟩
  clear l0 l1
  have HP := Lib.hid (HP.out.keep hb10 HP.out.lt)
  have HQ := Lib.hid (HQ.out.keep hb10 HQ.out.lt)
  have HB := Lib.hid (HB.out.trans (hb10.mono HB.out.size))
  clear hb10
  clear HI2 HAB2
  clear HQ
  go_upto_region 16 with fail
  have l0 := row_range HP.out
  go_wp2_with (first | (refine wpList_load_mid rfl 35 _ rfl pb 0 rfl _ _ l0 Tryd.underlying35 rfl infoPat ?_))
  refine (K5.out w10 HB.out).mono ?_
  rintro e11 w11 ⟨⟨a3, c3, rfl, hnc3, _, hi3, _⟩, hb11⟩
  clear l0
  have HI3 := Lib.hid hi3
  have HN3 := Lib.hid hnc3
  clear hi3 hnc3
  have HP := Lib.hid (HP.out.keep hb11 HP.out.lt)
  have HB := Lib.hid (HB.out.trans (hb11.mono HB.out.size))
  clear hb11
  have HNHU : Hid (pb ≠ w11.heap.size ∧ w.heap.size ≤ w11.heap.size) := Lib.hid ⟨Nat.ne_of_lt HP.out.lt, HB.out.size⟩
  have HNHUHI3 := Lib.hid (is_ne HI3.out)
  go_upto_region 17 with fail
  have hrx : Row (w11.alloc (.cells #[.int .i64 (QW : Nat), .int .i64 (QH : Nat), .slice a3 n c3] 35)) w11.heap.size 35 (boxP QW QH a3 n c3) := row_alloc w11 _ _
  have hbx : Below w11.heap.size w11 (w11.alloc (.cells #[.int .i64 (QW : Nat), .int .i64 (QH : Nat), .slice a3 n c3] 35)) := (Below.refl _ _).alloc (Nat.le_refl _) _
  have HP := Lib.hid (HP.out.keep hbx HP.out.lt)
  have HI3 := Lib.hid (HI3.out.keep hbx)
  have HB := Lib.hid (HB.out.trans (hbx.mono HB.out.size))
  clear hbx
  have HU := Lib.hid hrx
  clear hrx
  generalize w11.alloc (.cells #[.int .i64 (QW : Nat), .int .i64 (QH : Nat), .slice a3 n c3] 35) = w12 at *
  obtain ⟨ub, hub⟩ : ∃ ub, ub = w11.heap.size := ⟨_, rfl⟩
  rw [← hub] at HU HNHU HNHUHI3 ⊢
  clear hub
  go_upto_region 22 with fail
  rw [HJ3.out]
  have l0 := row_range HU.out
  go_wp2_with (first | (refine wpList_load_mid rfl 35 _ rfl ub 0 rfl _ _ l0 Tryd.underlying35 rfl infoPat ?_))
  refine (K6.out _ _ w12 HI3.out).mono ?_
  rintro e13 w13 ⟨⟨a4, n4, c4, rfl, hi4⟩, hb13⟩
  clear l0
  have HI4 := Lib.hid hi4
  clear hi4
  have HP := Lib.hid (HP.out.keep hb13 HP.out.lt)
  have HU := Lib.hid (HU.out.keep hb13 HU.out.lt)
  have HI3 := Lib.hid (HI3.out.keep hb13)
  have HB := Lib.hid (HB.out.trans (hb13.mono HB.out.size))
  clear hb13
  have HNHV : Hid (pb ≠ w13.heap.size ∧ ub ≠ w13.heap.size ∧ w.heap.size ≤ w13.heap.size) := Lib.hid ⟨Nat.ne_of_lt HP.out.lt, Nat.ne_of_lt HU.out.lt, HB.out.size⟩
  have HNHVHI3 := Lib.hid (is_ne HI3.out)
  have HNHVHI4 := Lib.hid (is_ne HI4.out)
  go_upto_region 23 with fail
  have hrx : Row (w13.alloc (.cells #[.int .i64 W, .int .i64 H, .slice a4 n4 c4] 35)) w13.heap.size 35 (boxP W H a4 n4 c4) := row_alloc w13 _ _
  have hbx : Below w13.heap.size w13 (w13.alloc (.cells #[.int .i64 W, .int .i64 H, .slice a4 n4 c4] 35)) := (Below.refl _ _).alloc (Nat.le_refl _) _
  have HP := Lib.hid (HP.out.keep hbx HP.out.lt)
  have HU := Lib.hid (HU.out.keep hbx HU.out.lt)
  have HI3 := Lib.hid (HI3.out.keep hbx)
  have HI4 := Lib.hid (HI4.out.keep hbx)
  have HB := Lib.hid (HB.out.trans (hbx.mono HB.out.size))
  clear hbx
  have HV := Lib.hid hrx
  clear hrx
  generalize w13.alloc (.cells #[.int .i64 W, .int .i64 H, .slice a4 n4 c4] 35) = w14 at *
  obtain ⟨vb, hvb⟩ : ∃ vb, vb = w13.heap.size := ⟨_, rfl⟩
  rw [← hvb] at HV HNHV HNHVHI3 HNHVHI4 ⊢
  clear hvb
  have l0 := row_range HP.out
  have l1 := row_range HV.out
  go_wp2_with (first | (refine wpList_load_mid rfl 35 _ rfl pb 0 rfl _ _ l0 Tryd.underlying35 rfl infoPat ?_) | (refine wpList_load_mid rfl 35 _ rfl vb 0 rfl _ _ l1 Tryd.underlying35 rfl infoPat ?_))
  refine (KB.out _ _ _ w14 HB.out HI4.out).mono ?_
  rintro e15 w15 ⟨rfl, hb15⟩
  clear l0 l1
  have HP := Lib.hid (HP.out.keep hb15 HP.out.lt)
  have HU := Lib.hid (HU.out.keep hb15 HU.out.lt)
  have HV := Lib.hid (HV.out.keep hb15 HV.out.lt)
  have HI3 := Lib.hid (HI3.out.keep hb15)
  have HI4 := Lib.hid (HI4.out.keep hb15)
  have HB := Lib.hid (HB.out.trans (hb15.mono HB.out.size))
  clear hb15
  clear HI4 HV
  have l0 := row_range HP.out
  go_wp2_with (first | (refine wpList_load_mid rfl 35 _ rfl pb 0 rfl _ _ l0 Tryd.underlying35 rfl infoPat ?_))
  refine (K7.out w15 HB.out).mono ?_
  rintro e16 w16 ⟨⟨a5, n5, c5, rfl, hi5⟩, hb16⟩
  clear l0
  have HI5 := Lib.hid hi5
  clear hi5
  have HP := Lib.hid (HP.out.keep hb16 HP.out.lt)
  have HU := Lib.hid (HU.out.keep hb16 HU.out.lt)
  have HI3 := Lib.hid (HI3.out.keep hb16)
  have HB := Lib.hid (HB.out.trans (hb16.mono HB.out.size))
  clear hb16
  have HNHA : Hid (pb ≠ w16.heap.size ∧ ub ≠ w16.heap.size ∧ w.heap.size ≤ w16.heap.size) := Lib.hid ⟨Nat.ne_of_lt HP.out.lt, Nat.ne_of_lt HU.out.lt, HB.out.size⟩
  have HNHAHI3 := Lib.hid (is_ne HI3.out)
  have HNHAHI5 := Lib.hid (is_ne HI5.out)
  go_upto_region 25 with fail
  have hrx : Row (w16.alloc (.cells #[.int .i64 (W1 : Nat), .int .i64 (H1 : Nat), .slice a5 n5 c5] 35)) w16.heap.size 35 (boxP W1 H1 a5 n5 c5) := row_alloc w16 _ _
  have hbx : Below w16.heap.size w16 (w16.alloc (.cells #[.int .i64 (W1 : Nat), .int .i64 (H1 : Nat), .slice a5 n5 c5] 35)) := (Below.refl _ _).alloc (Nat.le_refl _) _
  have HP := Lib.hid (HP.out.keep hbx HP.out.lt)
  have HU := Lib.hid (HU.out.keep hbx HU.out.lt)
  have HI3 := Lib.hid (HI3.out.keep hbx)
  have HI5 := Lib.hid (HI5.out.keep hbx)
  have HB := Lib.hid (HB.out.trans (hbx.mono HB.out.size))
  clear hbx
  have HA := Lib.hid hrx
  clear hrx
  generalize w16.alloc (.cells #[.int .i64 (W1 : Nat), .int .i64 (H1 : Nat), .slice a5 n5 c5] 35) = w17 at *
  obtain ⟨ab, hab⟩ : ∃ ab, ab = w16.heap.size := ⟨_, rfl⟩
  rw [← hab] at HA HNHA HNHAHI3 HNHAHI5 ⊢
  clear hab
  have l0 := row_range HU.out
  go_wp2_with (first | (refine wpList_load_mid rfl 35 _ rfl ub 0 rfl _ _ l0 Tryd.underlying35 rfl infoPat ?_))
  refine (K8.out w17 _ _ HI3.out HN3.out).mono ?_
  rintro e18 w18 ⟨⟨a6, n6, c6, rfl, hi6⟩, hb18⟩
  clear l0
  have HI6 := Lib.hid hi6
  clear hi6
  have HP := Lib.hid (HP.out.keep hb18 HP.out.lt)
  have HU := Lib.hid (HU.out.keep hb18 HU.out.lt)
  have HA := Lib.hid (HA.out.keep hb18 HA.out.lt)
  have HI3 := Lib.hid (HI3.out.keep hb18)
  have HI5 := Lib.hid (HI5.out.keep hb18)
  have HB := Lib.hid (HB.out.trans (hb18.mono HB.out.size))
  clear hb18
  have HNHG : Hid (pb ≠ w18.heap.size ∧ ub ≠ w18.heap.size ∧ ab ≠ w18.heap.size ∧ w.heap.size ≤ w18.heap.size) := Lib.hid ⟨Nat.ne_of_lt HP.out.lt, Nat.ne_of_lt HU.out.lt, Nat.ne_of_lt HA.out.lt, HB.out.size⟩
  have HNHGHI3 := Lib.hid (is_ne HI3.out)
  have HNHGHI5 := Lib.hid (is_ne HI5.out)
  have HNHGHI6 := Lib.hid (is_ne HI6.out)
  go_upto_region 26 with fail
  have hrx : Row (w18.alloc (.cells #[.int .i64 (W1 : Nat), .int .i64 (H1 : Nat), .slice a6 n6 c6] 35)) w18.heap.size 35 (boxP W1 H1 a6 n6 c6) := row_alloc w18 _ _
  have hbx : Below w18.heap.size w18 (w18.alloc (.cells #[.int .i64 (W1 : Nat), .int .i64 (H1 : Nat), .slice a6 n6 c6] 35)) := (Below.refl _ _).alloc (Nat.le_refl _) _
  have HP := Lib.hid (HP.out.keep hbx HP.out.lt)
  have HU := Lib.hid (HU.out.keep hbx HU.out.lt)
  have HA := Lib.hid (HA.out.keep hbx HA.out.lt)
  have HI3 := Lib.hid (HI3.out.keep hbx)
  have HI5 := Lib.hid (HI5.out.keep hbx)
  have HI6 := Lib.hid (HI6.out.keep hbx)
  have HB := Lib.hid (HB.out.trans (hbx.mono HB.out.size))
  clear hbx
  have HG := Lib.hid hrx
  clear hrx
  generalize w18.alloc (.cells #[.int .i64 (W1 : Nat), .int .i64 (H1 : Nat), .slice a6 n6 c6] 35) = w19 at *
  obtain ⟨gb, hgb⟩ : ∃ gb, gb = w18.heap.size := ⟨_, rfl⟩
  rw [← hgb] at HG HNHG HNHGHI3 HNHGHI5 HNHGHI6 ⊢
  clear hgb
  have l0 := row_range HA.out
  have l1 := row_range HG.out
  go_wp2_with (first | (refine wpList_load_mid rfl 35 _ rfl ab 0 rfl _ _ l0 Tryd.underlying35 rfl infoPat ?_) | (refine wpList_load_mid rfl 35 _ rfl gb 0 rfl _ _ l1 Tryd.underlying35 rfl infoPat ?_))
  refine (KA.out _ _ _ _ _ _ w19 HI5.out HI6.out).mono ?_
  rintro e20 w20 ⟨rfl, hb20⟩
  clear l0 l1
  have HP := Lib.hid (HP.out.keep hb20 HP.out.lt)
  have HU := Lib.hid (HU.out.keep hb20 HU.out.lt)
  have HA := Lib.hid (HA.out.keep hb20 HA.out.lt)
  have HG := Lib.hid (HG.out.keep hb20 HG.out.lt)
  have HI3 := Lib.hid (HI3.out.keep hb20)
  have HI5 := Lib.hid (HI5.out.keep hb20)
  have HI6 := Lib.hid (HI6.out.keep hb20)
  have HB := Lib.hid (HB.out.trans (hb20.mono HB.out.size))
  clear hb20
  clear HP HU HA HG
  go_wp2_with fail
  go_ret
  exact ⟨rfl, HB.out⟩
set_option maxHeartbeats 16000000 in
set_option maxRecDepth 1000000 in
theorem pback_low_e (W H : Nat) (a : Option Addr) (n c : Nat) (f : Nat → Nat → Nat) (k : Nat) (hk : k < 4) (hE : H = 0 ∧ W ≠ 0) (w : World) (hT : Tab w) (hU : UTabs w) (hM : Marks w) (hZ : Ints.Is w a n (flat W H f)) (hn : n = W * H) (hc : n ≤ c) (hW : W ≤ 100) (hH : H ≤ 100) (hf : ∀ x y, f x y < 2) (hp : pfault W H (flat W H f) = 0) :
    Calls Tryd.prog 6 #[.agg #[.int .i64 W, .int .i64 H, .slice a n c], .int .i64 k] w fun e w' => e = .returned (.bool true) ∧ Below w.heap.size w w' := by
  have K1 := Lib.hid (fun w2 (h : Below w.heap.size w w2) => Runs_ok W H a n c f w2 (hT.keep h) (hZ.keep h) hn hc hW hH hf hp)
  have K2 := Lib.hid (fun w2 => read_runs W H f w2 hW hH hf)
  have K3 := Lib.hid (fun w2 (h : Below w.heap.size w w2) => Draw_ok W H a n c f w2 (hM.keep h) (hZ.keep h) hn hW hH hf hp)
  have K4 := Lib.hid (fun w2 (h : Below w.heap.size w w2) => read_draw W H f w2 (hU.keep h) (hM.keep h) hW hH hf)
  have KB := Lib.hid (fun (a2 : Option Addr) (n2 c2 : Nat) w2 (h : Below w.heap.size w w2) h2 => back_same W H a n c a2 n2 c2 (flat W H f) w2 (hZ.keep h) h2)
  have hW0 : (W : Int) ≠ ((if H = 0 then 0 else W : Nat) : Int) := by rw [if_pos hE.1]; have := hE.2; omega
  have KC := Lib.hid (fun (a2 : Option Addr) (n2 c2 : Nat) w2 (h : Below w.heap.size w w2) h2 => back_other W H a n c _ hW0 a2 n2 c2 (flat W H f) w2 (hZ.keep h) h2)
  have hz0 : ¬ (0 : Int) < (H : Int) := by have := hE.1; omega
  generalize (if H = 0 then 0 else W : Nat) = W0 at *
  clear hW0
  have hk8 : k < 8 := by omega
  have K5 := Lib.hid (fun w2 (h : Below w.heap.size w w2) => Turn_ok W H k a n c f w2 (hZ.keep h) hn (by omega) (by omega) hk8 hp)
  have K6 := Lib.hid (fun (a2 : Option Addr) (c2 : Nat) w2 h2 => turn_again W H k n f hn hW hH hf hk8 a2 c2 w2 h2)
  obtain ⟨W1, H1, z1, o1, o2⟩ := canon_two W H k a n c f w hZ hn hc hW hH hf hk8
  have K7 := Lib.hid o1
  have K8 := Lib.hid o2
  have KA := Lib.hid (fun (a1 a2 : Option Addr) (n1 c1 n2 c2 : Nat) w2 h1 h2 => alike_same W1 H1 a1 n1 c1 a2 n2 c2 z1 w2 h1 h2)
  have hk4 : (k : Int) < 4 := by omega
  have HJ3 : Hid ((4 - (k : Int)) % 4 = ((invT k : Nat) : Int)) := Lib.hid (by unfold invT; rw [if_pos hk]; omega)
  generalize qW W H (k % 4) = QW at *
  generalize qH W H (k % 4) = QH at *
  generalize flat QW QH (tF W H f k) = zq at *
  generalize invT k = j at *
  clear o1 o2 hk hk8
  generalize ByteArray.mk (runsS W H f).toArray = sr at *
  generalize ByteArray.mk (drawS W H f).toArray = sd at *
  generalize flat W H f = zp at *
  clear hT hU hZ hc hM hn hW hH hf hp hE
  go_enter Tryd.func6, Tryd.ntmps6
  go_upto_region 1 with fail
  have HP : Hid (Row (w.alloc (.cells #[.int .i64 W, .int .i64 H, .slice a n c] 35)) w.heap.size 35 (boxP W H a n c)) := Lib.hid (row_alloc w _ (boxP W H a n c))
  have HB : Hid (Below w.heap.size w (w.alloc (.cells #[.int .i64 W, .int .i64 H, .slice a n c] 35))) := Lib.hid ((Below.refl _ _).alloc (Nat.le_refl _) _)
  generalize w.alloc (.cells #[.int .i64 W, .int .i64 H, .slice a n c] 35) = w0 at *
  obtain ⟨pb, hpb⟩ : ∃ pb, pb = w.heap.size := ⟨_, rfl⟩
  rw [← hpb] at HP ⊢
  clear hpb
  go_wp2_with fail
  refine (fact_any w0).mono ?_
  rintro e1 w1 ⟨⟨a0, c0, rfl, hi0⟩, hb1⟩
  have HI0 := Lib.hid hi0
  clear hi0
  have HP := Lib.hid (HP.out.keep hb1 HP.out.lt)
  have HB := Lib.hid (HB.out.trans (hb1.mono HB.out.size))
  clear hb1
  have HNHF : Hid (pb ≠ w1.heap.size ∧ w.heap.size ≤ w1.heap.size) := Lib.hid ⟨Nat.ne_of_lt HP.out.lt, HB.out.size⟩
  have HNHFHI0 := Lib.hid (is_ne HI0.out)
  go_upto_region 2 with fail
  have hrx : Row (w1.alloc (.cells #[.int .i64 2, .int .i64 1, .slice a0 2 c0] 35)) w1.heap.size 35 (boxP 2 1 a0 2 c0) := row_alloc w1 _ _
  have hbx : Below w1.heap.size w1 (w1.alloc (.cells #[.int .i64 2, .int .i64 1, .slice a0 2 c0] 35)) := (Below.refl _ _).alloc (Nat.le_refl _) _
  have HP := Lib.hid (HP.out.keep hbx HP.out.lt)
  have HI0 := Lib.hid (HI0.out.keep hbx)
  have HB := Lib.hid (HB.out.trans (hbx.mono HB.out.size))
  clear hbx
  have HF := Lib.hid hrx
  clear hrx
  generalize w1.alloc (.cells #[.int .i64 2, .int .i64 1, .slice a0 2 c0] 35) = w2 at *
  obtain ⟨fb, hfb⟩ : ∃ fb, fb = w1.heap.size := ⟨_, rfl⟩
  rw [← hfb] at HF HNHF HNHFHI0 ⊢
  clear hfb
  obtain ⟨b0, o0, e0, _, hc1⟩ := HI0.out.cells 1 (by decide)
  subst e0
  have hc1 := (hc1 : _ = some (Value.int .i64 1))
  have f0 := HF.out.cell 0
  have f1 := HF.out.cell 1
  have f2 := HF.out.cell 2
  unfold boxP at f0 f1 f2
  dsimp only [List.getElem?_cons_succ, List.getElem?_cons_zero] at f0 f1 f2
  go_upto_region 4 with fail
  clear hc1 f0 f1 f2
  clear HF HI0
  have l0 := row_range HP.out
  go_wp2_with (first | (refine wpList_load_mid rfl 35 _ rfl pb 0 rfl _ _ l0 Tryd.underlying35 rfl infoPat ?_))
  refine (K1.out w2 HB.out).mono ?_
  rintro e3 w3 ⟨rfl, hb3⟩
  clear l0
  have HP := Lib.hid (HP.out.keep hb3 HP.out.lt)
  have HB := Lib.hid (HB.out.trans (hb3.mono HB.out.size))
  clear hb3
  go_wp2_with fail
  refine (K2.out w3).mono ?_
  rintro e4 w4 ⟨⟨a1, n1, c1, rfl, hi1⟩, hb4⟩
  have HI1 := Lib.hid hi1
  clear hi1
  have HP := Lib.hid (HP.out.keep hb4 HP.out.lt)
  have HB := Lib.hid (HB.out.trans (hb4.mono HB.out.size))
  clear hb4
  have HNHQ : Hid (pb ≠ w4.heap.size ∧ w.heap.size ≤ w4.heap.size) := Lib.hid ⟨Nat.ne_of_lt HP.out.lt, HB.out.size⟩
  have HNHQHI1 := Lib.hid (is_ne HI1.out)
  go_upto_region 8 with fail
  have hrx : Row (w4.alloc (.cells #[.int .i64 W, .int .i64 H, .slice a1 n1 c1] 35)) w4.heap.size 35 (boxP W H a1 n1 c1) := row_alloc w4 _ _
  have hbx : Below w4.heap.size w4 (w4.alloc (.cells #[.int .i64 W, .int .i64 H, .slice a1 n1 c1] 35)) := (Below.refl _ _).alloc (Nat.le_refl _) _
  have HP := Lib.hid (HP.out.keep hbx HP.out.lt)
  have HI1 := Lib.hid (HI1.out.keep hbx)
  have HB := Lib.hid (HB.out.trans (hbx.mono HB.out.size))
  clear hbx
  have HQ := Lib.hid hrx
  clear hrx
  generalize w4.alloc (.cells #[.int .i64 W, .int .i64 H, .slice a1 n1 c1] 35) = w5 at *
  obtain ⟨qb, hqb⟩ : ∃ qb, qb = w4.heap.size := ⟨_, rfl⟩
  rw [← hqb] at HQ HNHQ HNHQHI1 ⊢
  clear hqb
  have l0 := row_range HP.out
  have l1 := row_range HQ.out
  go_wp2_with (first | (refine wpList_load_mid rfl 35 _ rfl pb 0 rfl _ _ l0 Tryd.underlying35 rfl infoPat ?_) | (refine wpList_load_mid rfl 35 _ rfl qb 0 rfl _ _ l1 Tryd.underlying35 rfl infoPat ?_))
  refine (KB.out _ _ _ w5 HB.out HI1.out).mono ?_
  rintro e6 w6 ⟨rfl, hb6⟩
  clear l0 l1
  have HP := Lib.hid (HP.out.keep hb6 HP.out.lt)
  have HQ := Lib.hid (HQ.out.keep hb6 HQ.out.lt)
  have HI1 := Lib.hid (HI1.out.keep hb6)
  have HB := Lib.hid (HB.out.trans (hb6.mono HB.out.size))
  clear hb6
  clear HI1
  have l0 := row_range HP.out
  go_wp2_with (first | (refine wpList_load_mid rfl 35 _ rfl pb 0 rfl _ _ l0 Tryd.underlying35 rfl infoPat ?_))
  refine (K3.out w6 HB.out).mono ?_
  rintro e7 w7 ⟨rfl, hb7⟩
  clear l0
  have HP := Lib.hid (HP.out.keep hb7 HP.out.lt)
  have HQ := Lib.hid (HQ.out.keep hb7 HQ.out.lt)
  have HB := Lib.hid (HB.out.trans (hb7.mono HB.out.size))
  clear hb7
  go_wp2_with fail
  refine (K4.out w7 HB.out).mono ?_
  rintro e8 w8 ⟨⟨a2, n2, c2, rfl, hi2, hb2x⟩, hb8⟩
  have HI2 := Lib.hid hi2
  have HAB2 : Hid (∀ b o, a2 = some ⟨b, o, none⟩ → n2 ≠ 0 → b ≠ qb) := Lib.hid (fun b o e h0 => by have := hb2x b o e h0; have := HQ.out.lt; omega)
  clear hi2 hb2x
  have HP := Lib.hid (HP.out.keep hb8 HP.out.lt)
  have HQ := Lib.hid (HQ.out.keep hb8 HQ.out.lt)
  have HB := Lib.hid (HB.out.trans (hb8.mono HB.out.size))
  clear hb8
  have hrs := HQ.out
  go_upto_region 13 with (refine Ops.wpList_store_arr rfl 35 _ _ rfl qb rfl 35 _ (boxP W0 H a2 n2 c2) rfl hrs rfl infoPat (boxP_one _ _ _ _ _) ?_; intro w9 hrn hon)
  clear hrs
  have HP := Lib.hid (HP.out.other hon HNHQ.out.1)
  have HI2 := Lib.hid (is_other3 HI2.out hon HAB2.out)
  have HB := Lib.hid (HB.out.trans (hon.below HNHQ.out.2))
  have HQ := Lib.hid hrn
  clear hrn hon
  have l0 := row_range HP.out
  have l1 := row_range HQ.out
  go_wp2_with (first | (refine wpList_load_mid rfl 35 _ rfl pb 0 rfl _ _ l0 Tryd.underlying35 rfl infoPat ?_) | (refine wpList_load_mid rfl 35 _ rfl qb 0 rfl _ _ l1 Tryd.underlying35 rfl infoPat ?_))
  refine (KC.out _ _ _ w9 HB.out HI2.out).mono ?_
  rintro e10 w10 ⟨rfl, hb10⟩
  clear l0 l1
  have HP := Lib.hid (HP.out.keep hb10 HP.out.lt)
  have HQ := Lib.hid (HQ.out.keep hb10 HQ.out.lt)
  have HB := Lib.hid (HB.out.trans (hb10.mono HB.out.size))
  clear hb10
  clear HI2 HAB2
  clear HQ
  have p1 := HP.out.cell 1
  unfold boxP at p1
  dsimp only [List.getElem?_cons_succ, List.getElem?_cons_zero] at p1
  go_upto_region 16 with fail
  clear p1
  have l0 := row_range HP.out
  go_wp2_with (first | (refine wpList_load_mid rfl 35 _ rfl pb 0 rfl _ _ l0 Tryd.underlying35 rfl infoPat ?_))
  refine (K5.out w10 HB.out).mono ?_
  rintro e11 w11 ⟨⟨a3, c3, rfl, hnc3, _, hi3, _⟩, hb11⟩
  clear l0
  have HI3 := Lib.hid hi3
  have HN3 := Lib.hid hnc3
  clear hi3 hnc3
  have HP := Lib.hid (HP.out.keep hb11 HP.out.lt)
  have HB := Lib.hid (HB.out.trans (hb11.mono HB.out.size))
  clear hb11
  have HNHU : Hid (pb ≠ w11.heap.size ∧ w.heap.size ≤ w11.heap.size) := Lib.hid ⟨Nat.ne_of_lt HP.out.lt, HB.out.size⟩
  have HNHUHI3 := Lib.hid (is_ne HI3.out)
  go_upto_region 17 with fail
  have hrx : Row (w11.alloc (.cells #[.int .i64 (QW : Nat), .int .i64 (QH : Nat), .slice a3 n c3] 35)) w11.heap.size 35 (boxP QW QH a3 n c3) := row_alloc w11 _ _
  have hbx : Below w11.heap.size w11 (w11.alloc (.cells #[.int .i64 (QW : Nat), .int .i64 (QH : Nat), .slice a3 n c3] 35)) := (Below.refl _ _).alloc (Nat.le_refl _) _
  have HP := Lib.hid (HP.out.keep hbx HP.out.lt)
  have HI3 := Lib.hid (HI3.out.keep hbx)
  have HB := Lib.hid (HB.out.trans (hbx.mono HB.out.size))
  clear hbx
  have HU := Lib.hid hrx
  clear hrx
  generalize w11.alloc (.cells #[.int .i64 (QW : Nat), .int .i64 (QH : Nat), .slice a3 n c3] 35) = w12 at *
  obtain ⟨ub, hub⟩ : ∃ ub, ub = w11.heap.size := ⟨_, rfl⟩
  rw [← hub] at HU HNHU HNHUHI3 ⊢
  clear hub
  go_upto_region 22 with fail
  rw [HJ3.out]
  have l0 := row_range HU.out
  go_wp2_with (first | (refine wpList_load_mid rfl 35 _ rfl ub 0 rfl _ _ l0 Tryd.underlying35 rfl infoPat ?_))
  refine (K6.out _ _ w12 HI3.out).mono ?_
  rintro e13 w13 ⟨⟨a4, n4, c4, rfl, hi4⟩, hb13⟩
  clear l0
  have HI4 := Lib.hid hi4
  clear hi4
  have HP := Lib.hid (HP.out.keep hb13 HP.out.lt)
  have HU := Lib.hid (HU.out.keep hb13 HU.out.lt)
  have HI3 := Lib.hid (HI3.out.keep hb13)
  have HB := Lib.hid (HB.out.trans (hb13.mono HB.out.size))
  clear hb13
  have HNHV : Hid (pb ≠ w13.heap.size ∧ ub ≠ w13.heap.size ∧ w.heap.size ≤ w13.heap.size) := Lib.hid ⟨Nat.ne_of_lt HP.out.lt, Nat.ne_of_lt HU.out.lt, HB.out.size⟩
  have HNHVHI3 := Lib.hid (is_ne HI3.out)
  have HNHVHI4 := Lib.hid (is_ne HI4.out)
  go_upto_region 23 with fail
  have hrx : Row (w13.alloc (.cells #[.int .i64 W, .int .i64 H, .slice a4 n4 c4] 35)) w13.heap.size 35 (boxP W H a4 n4 c4) := row_alloc w13 _ _
  have hbx : Below w13.heap.size w13 (w13.alloc (.cells #[.int .i64 W, .int .i64 H, .slice a4 n4 c4] 35)) := (Below.refl _ _).alloc (Nat.le_refl _) _
  have HP := Lib.hid (HP.out.keep hbx HP.out.lt)
  have HU := Lib.hid (HU.out.keep hbx HU.out.lt)
  have HI3 := Lib.hid (HI3.out.keep hbx)
  have HI4 := Lib.hid (HI4.out.keep hbx)
  have HB := Lib.hid (HB.out.trans (hbx.mono HB.out.size))
  clear hbx
  have HV := Lib.hid hrx
  clear hrx
  generalize w13.alloc (.cells #[.int .i64 W, .int .i64 H, .slice a4 n4 c4] 35) = w14 at *
  obtain ⟨vb, hvb⟩ : ∃ vb, vb = w13.heap.size := ⟨_, rfl⟩
  rw [← hvb] at HV HNHV HNHVHI3 HNHVHI4 ⊢
  clear hvb
  have l0 := row_range HP.out
  have l1 := row_range HV.out
  go_wp2_with (first | (refine wpList_load_mid rfl 35 _ rfl pb 0 rfl _ _ l0 Tryd.underlying35 rfl infoPat ?_) | (refine wpList_load_mid rfl 35 _ rfl vb 0 rfl _ _ l1 Tryd.underlying35 rfl infoPat ?_))
  refine (KB.out _ _ _ w14 HB.out HI4.out).mono ?_
  rintro e15 w15 ⟨rfl, hb15⟩
  clear l0 l1
  have HP := Lib.hid (HP.out.keep hb15 HP.out.lt)
  have HU := Lib.hid (HU.out.keep hb15 HU.out.lt)
  have HV := Lib.hid (HV.out.keep hb15 HV.out.lt)
  have HI3 := Lib.hid (HI3.out.keep hb15)
  have HI4 := Lib.hid (HI4.out.keep hb15)
  have HB := Lib.hid (HB.out.trans (hb15.mono HB.out.size))
  clear hb15
  clear HI4 HV
  have l0 := row_range HP.out
  go_wp2_with (first | (refine wpList_load_mid rfl 35 _ rfl pb 0 rfl _ _ l0 Tryd.underlying35 rfl infoPat ?_))
  refine (K7.out w15 HB.out).mono ?_
  rintro e16 w16 ⟨⟨a5, n5, c5, rfl, hi5⟩, hb16⟩
  clear l0
  have HI5 := Lib.hid hi5
  clear hi5
  have HP := Lib.hid (HP.out.keep hb16 HP.out.lt)
  have HU := Lib.hid (HU.out.keep hb16 HU.out.lt)
  have HI3 := Lib.hid (HI3.out.keep hb16)
  have HB := Lib.hid (HB.out.trans (hb16.mono HB.out.size))
  clear hb16
  have HNHA : Hid (pb ≠ w16.heap.size ∧ ub ≠ w16.heap.size ∧ w.heap.size ≤ w16.heap.size) := Lib.hid ⟨Nat.ne_of_lt HP.out.lt, Nat.ne_of_lt HU.out.lt, HB.out.size⟩
  have HNHAHI3 := Lib.hid (is_ne HI3.out)
  have HNHAHI5 := Lib.hid (is_ne HI5.out)
  go_upto_region 25 with fail
  have hrx : Row (w16.alloc (.cells #[.int .i64 (W1 : Nat), .int .i64 (H1 : Nat), .slice a5 n5 c5] 35)) w16.heap.size 35 (boxP W1 H1 a5 n5 c5) := row_alloc w16 _ _
  have hbx : Below w16.heap.size w16 (w16.alloc (.cells #[.int .i64 (W1 : Nat), .int .i64 (H1 : Nat), .slice a5 n5 c5] 35)) := (Below.refl _ _).alloc (Nat.le_refl _) _
  have HP := Lib.hid (HP.out.keep hbx HP.out.lt)
  have HU := Lib.hid (HU.out.keep hbx HU.out.lt)
  have HI3 := Lib.hid (HI3.out.keep hbx)
  have HI5 := Lib.hid (HI5.out.keep hbx)
  have HB := Lib.hid (HB.out.trans (hbx.mono HB.out.size))
  clear hbx
  have HA := Lib.hid hrx
  clear hrx
  generalize w16.alloc (.cells #[.int .i64 (W1 : Nat), .int .i64 (H1 : Nat), .slice a5 n5 c5] 35) = w17 at *
  obtain ⟨ab, hab⟩ : ∃ ab, ab = w16.heap.size := ⟨_, rfl⟩
  rw [← hab] at HA HNHA HNHAHI3 HNHAHI5 ⊢
  clear hab
  have l0 := row_range HU.out
  go_wp2_with (first | (refine wpList_load_mid rfl 35 _ rfl ub 0 rfl _ _ l0 Tryd.underlying35 rfl infoPat ?_))
  refine (K8.out w17 _ _ HI3.out HN3.out).mono ?_
  rintro e18 w18 ⟨⟨a6, n6, c6, rfl, hi6⟩, hb18⟩
  clear l0
  have HI6 := Lib.hid hi6
  clear hi6
  have HP := Lib.hid (HP.out.keep hb18 HP.out.lt)
  have HU := Lib.hid (HU.out.keep hb18 HU.out.lt)
  have HA := Lib.hid (HA.out.keep hb18 HA.out.lt)
  have HI3 := Lib.hid (HI3.out.keep hb18)
  have HI5 := Lib.hid (HI5.out.keep hb18)
  have HB := Lib.hid (HB.out.trans (hb18.mono HB.out.size))
  clear hb18
  have HNHG : Hid (pb ≠ w18.heap.size ∧ ub ≠ w18.heap.size ∧ ab ≠ w18.heap.size ∧ w.heap.size ≤ w18.heap.size) := Lib.hid ⟨Nat.ne_of_lt HP.out.lt, Nat.ne_of_lt HU.out.lt, Nat.ne_of_lt HA.out.lt, HB.out.size⟩
  have HNHGHI3 := Lib.hid (is_ne HI3.out)
  have HNHGHI5 := Lib.hid (is_ne HI5.out)
  have HNHGHI6 := Lib.hid (is_ne HI6.out)
  go_upto_region 26 with fail
  have hrx : Row (w18.alloc (.cells #[.int .i64 (W1 : Nat), .int .i64 (H1 : Nat), .slice a6 n6 c6] 35)) w18.heap.size 35 (boxP W1 H1 a6 n6 c6) := row_alloc w18 _ _
  have hbx : Below w18.heap.size w18 (w18.alloc (.cells #[.int .i64 (W1 : Nat), .int .i64 (H1 : Nat), .slice a6 n6 c6] 35)) := (Below.refl _ _).alloc (Nat.le_refl _) _
  have HP := Lib.hid (HP.out.keep hbx HP.out.lt)
  have HU := Lib.hid (HU.out.keep hbx HU.out.lt)
  have HA := Lib.hid (HA.out.keep hbx HA.out.lt)
  have HI3 := Lib.hid (HI3.out.keep hbx)
  have HI5 := Lib.hid (HI5.out.keep hbx)
  have HI6 := Lib.hid (HI6.out.keep hbx)
  have HB := Lib.hid (HB.out.trans (hbx.mono HB.out.size))
  clear hbx
  have HG := Lib.hid hrx
  clear hrx
  generalize w18.alloc (.cells #[.int .i64 (W1 : Nat), .int .i64 (H1 : Nat), .slice a6 n6 c6] 35) = w19 at *
  obtain ⟨gb, hgb⟩ : ∃ gb, gb = w18.heap.size := ⟨_, rfl⟩
  rw [← hgb] at HG HNHG HNHGHI3 HNHGHI5 HNHGHI6 ⊢
  clear hgb
  have l0 := row_range HA.out
  have l1 := row_range HG.out
  go_wp2_with (first | (refine wpList_load_mid rfl 35 _ rfl ab 0 rfl _ _ l0 Tryd.underlying35 rfl infoPat ?_) | (refine wpList_load_mid rfl 35 _ rfl gb 0 rfl _ _ l1 Tryd.underlying35 rfl infoPat ?_))
  refine (KA.out _ _ _ _ _ _ w19 HI5.out HI6.out).mono ?_
  rintro e20 w20 ⟨rfl, hb20⟩
  clear l0 l1
  have HP := Lib.hid (HP.out.keep hb20 HP.out.lt)
  have HU := Lib.hid (HU.out.keep hb20 HU.out.lt)
  have HA := Lib.hid (HA.out.keep hb20 HA.out.lt)
  have HG := Lib.hid (HG.out.keep hb20 HG.out.lt)
  have HI3 := Lib.hid (HI3.out.keep hb20)
  have HI5 := Lib.hid (HI5.out.keep hb20)
  have HI6 := Lib.hid (HI6.out.keep hb20)
  have HB := Lib.hid (HB.out.trans (hb20.mono HB.out.size))
  clear hb20
  clear HP HU HA HG
  go_wp2_with fail
  go_ret
  exact ⟨rfl, HB.out⟩
set_option maxHeartbeats 16000000 in
set_option maxRecDepth 1000000 in
theorem pback_high (W H : Nat) (a : Option Addr) (n c : Nat) (f : Nat → Nat → Nat) (k : Nat) (hk : 4 ≤ k ∧ k < 8) (hE : ¬ (H = 0 ∧ W ≠ 0)) (w : World) (hT : Tab w) (hU : UTabs w) (hM : Marks w) (hZ : Ints.Is w a n (flat W H f)) (hn : n = W * H) (hc : n ≤ c) (hW : W ≤ 100) (hH : H ≤ 100) (hf : ∀ x y, f x y < 2) (hp : pfault W H (flat W H f) = 0) :
    Calls Tryd.prog 6 #[.agg #[.int .i64 W, .int .i64 H, .slice a n c], .int .i64 k] w fun e w' => e = .returned (.bool true) ∧ Below w.heap.size w w' := by
  have K1 := Lib.hid (fun w2 (h : Below w.heap.size w w2) => Runs_ok W H a n c f w2 (hT.keep h) (hZ.keep h) hn hc hW hH hf hp)
  have K2 := Lib.hid (fun w2 => read_runs W H f w2 hW hH hf)
  have K3 := Lib.hid (fun w2 (h : Below w.heap.size w w2) => Draw_ok W H a n c f w2 (hM.keep h) (hZ.keep h) hn hW hH hf hp)
  have K4 := Lib.hid (fun w2 (h : Below w.heap.size w w2) => read_draw W H f w2 (hU.keep h) (hM.keep h) hW hH hf)
  have KB := Lib.hid (fun (a2 : Option Addr) (n2 c2 : Nat) w2 (h : Below w.heap.size w w2) h2 => back_same W H a n c a2 n2 c2 (flat W H f) w2 (hZ.keep h) h2)
  have hW0 : (if H = 0 then 0 else W : Nat) = W := by
    split
    · omega
    · rfl
  rw [hW0] at K4
  clear hW0
  have hk8 : k < 8 := by omega
  have K5 := Lib.hid (fun w2 (h : Below w.heap.size w w2) => Turn_ok W H k a n c f w2 (hZ.keep h) hn (by omega) (by omega) hk8 hp)
  have K6 := Lib.hid (fun (a2 : Option Addr) (c2 : Nat) w2 h2 => turn_again W H k n f hn hW hH hf hk8 a2 c2 w2 h2)
  obtain ⟨W1, H1, z1, o1, o2⟩ := canon_two W H k a n c f w hZ hn hc hW hH hf hk8
  have K7 := Lib.hid o1
  have K8 := Lib.hid o2
  have KA := Lib.hid (fun (a1 a2 : Option Addr) (n1 c1 n2 c2 : Nat) w2 h1 h2 => alike_same W1 H1 a1 n1 c1 a2 n2 c2 z1 w2 h1 h2)
  have hk4 : ¬ (k : Int) < 4 := by omega
  have hj : invT k = k := by unfold invT; rw [if_neg (by omega)]
  rw [hj] at K6
  clear hj
  generalize qW W H (k % 4) = QW at *
  generalize qH W H (k % 4) = QH at *
  generalize flat QW QH (tF W H f k) = zq at *

  clear o1 o2 hk hk8
  generalize ByteArray.mk (runsS W H f).toArray = sr at *
  generalize ByteArray.mk (drawS W H f).toArray = sd at *
  generalize flat W H f = zp at *
  clear hT hU hZ hc hM hn hW hH hf hp hE
  go_enter Tryd.func6, Tryd.ntmps6
  go_upto_region 1 with fail
  have HP : Hid (Row (w.alloc (.cells #[.int .i64 W, .int .i64 H, .slice a n c] 35)) w.heap.size 35 (boxP W H a n c)) := Lib.hid (row_alloc w _ (boxP W H a n c))
  have HB : Hid (Below w.heap.size w (w.alloc (.cells #[.int .i64 W, .int .i64 H, .slice a n c] 35))) := Lib.hid ((Below.refl _ _).alloc (Nat.le_refl _) _)
  generalize w.alloc (.cells #[.int .i64 W, .int .i64 H, .slice a n c] 35) = w0 at *
  obtain ⟨pb, hpb⟩ : ∃ pb, pb = w.heap.size := ⟨_, rfl⟩
  rw [← hpb] at HP ⊢
  clear hpb
  go_wp2_with fail
  refine (fact_any w0).mono ?_
  rintro e1 w1 ⟨⟨a0, c0, rfl, hi0⟩, hb1⟩
  have HI0 := Lib.hid hi0
  clear hi0
  have HP := Lib.hid (HP.out.keep hb1 HP.out.lt)
  have HB := Lib.hid (HB.out.trans (hb1.mono HB.out.size))
  clear hb1
  have HNHF : Hid (pb ≠ w1.heap.size ∧ w.heap.size ≤ w1.heap.size) := Lib.hid ⟨Nat.ne_of_lt HP.out.lt, HB.out.size⟩
  have HNHFHI0 := Lib.hid (is_ne HI0.out)
  go_upto_region 2 with fail
  have hrx : Row (w1.alloc (.cells #[.int .i64 2, .int .i64 1, .slice a0 2 c0] 35)) w1.heap.size 35 (boxP 2 1 a0 2 c0) := row_alloc w1 _ _
  have hbx : Below w1.heap.size w1 (w1.alloc (.cells #[.int .i64 2, .int .i64 1, .slice a0 2 c0] 35)) := (Below.refl _ _).alloc (Nat.le_refl _) _
  have HP := Lib.hid (HP.out.keep hbx HP.out.lt)
  have HI0 := Lib.hid (HI0.out.keep hbx)
  have HB := Lib.hid (HB.out.trans (hbx.mono HB.out.size))
  clear hbx
  have HF := Lib.hid hrx
  clear hrx
  generalize w1.alloc (.cells #[.int .i64 2, .int .i64 1, .slice a0 2 c0] 35) = w2 at *
  obtain ⟨fb, hfb⟩ : ∃ fb, fb = w1.heap.size := ⟨_, rfl⟩
  rw [← hfb] at HF HNHF HNHFHI0 ⊢
  clear hfb
  obtain ⟨b0, o0, e0, _, hc1⟩ := HI0.out.cells 1 (by decide)
  subst e0
  have hc1 := (hc1 : _ = some (Value.int .i64 1))
  have f0 := HF.out.cell 0
  have f1 := HF.out.cell 1
  have f2 := HF.out.cell 2
  unfold boxP at f0 f1 f2
  dsimp only [List.getElem?_cons_succ, List.getElem?_cons_zero] at f0 f1 f2
  go_upto_region 4 with fail
  clear hc1 f0 f1 f2
  clear HF HI0
  have l0 := row_range HP.out
  go_wp2_with (first | (refine wpList_load_mid rfl 35 _ rfl pb 0 rfl _ _ l0 Tryd.underlying35 rfl infoPat ?_))
  refine (K1.out w2 HB.out).mono ?_
  rintro e3 w3 ⟨rfl, hb3⟩
  clear l0
  have HP := Lib.hid (HP.out.keep hb3 HP.out.lt)
  have HB := Lib.hid (HB.out.trans (hb3.mono HB.out.size))
  clear hb3
  go_wp2_with fail
  refine (K2.out w3).mono ?_
  rintro e4 w4 ⟨⟨a1, n1, c1, rfl, hi1⟩, hb4⟩
  have HI1 := Lib.hid hi1
  clear hi1
  have HP := Lib.hid (HP.out.keep hb4 HP.out.lt)
  have HB := Lib.hid (HB.out.trans (hb4.mono HB.out.size))
  clear hb4
  have HNHQ : Hid (pb ≠ w4.heap.size ∧ w.heap.size ≤ w4.heap.size) := Lib.hid ⟨Nat.ne_of_lt HP.out.lt, HB.out.size⟩
  have HNHQHI1 := Lib.hid (is_ne HI1.out)
  go_upto_region 8 with fail
  have hrx : Row (w4.alloc (.cells #[.int .i64 W, .int .i64 H, .slice a1 n1 c1] 35)) w4.heap.size 35 (boxP W H a1 n1 c1) := row_alloc w4 _ _
  have hbx : Below w4.heap.size w4 (w4.alloc (.cells #[.int .i64 W, .int .i64 H, .slice a1 n1 c1] 35)) := (Below.refl _ _).alloc (Nat.le_refl _) _
  have HP := Lib.hid (HP.out.keep hbx HP.out.lt)
  have HI1 := Lib.hid (HI1.out.keep hbx)
  have HB := Lib.hid (HB.out.trans (hbx.mono HB.out.size))
  clear hbx
  have HQ := Lib.hid hrx
  clear hrx
  generalize w4.alloc (.cells #[.int .i64 W, .int .i64 H, .slice a1 n1 c1] 35) = w5 at *
  obtain ⟨qb, hqb⟩ : ∃ qb, qb = w4.heap.size := ⟨_, rfl⟩
  rw [← hqb] at HQ HNHQ HNHQHI1 ⊢
  clear hqb
  have l0 := row_range HP.out
  have l1 := row_range HQ.out
  go_wp2_with (first | (refine wpList_load_mid rfl 35 _ rfl pb 0 rfl _ _ l0 Tryd.underlying35 rfl infoPat ?_) | (refine wpList_load_mid rfl 35 _ rfl qb 0 rfl _ _ l1 Tryd.underlying35 rfl infoPat ?_))
  refine (KB.out _ _ _ w5 HB.out HI1.out).mono ?_
  rintro e6 w6 ⟨rfl, hb6⟩
  clear l0 l1
  have HP := Lib.hid (HP.out.keep hb6 HP.out.lt)
  have HQ := Lib.hid (HQ.out.keep hb6 HQ.out.lt)
  have HI1 := Lib.hid (HI1.out.keep hb6)
  have HB := Lib.hid (HB.out.trans (hb6.mono HB.out.size))
  clear hb6
  clear HI1
  have l0 := row_range HP.out
  go_wp2_with (first | (refine wpList_load_mid rfl 35 _ rfl pb 0 rfl _ _ l0 Tryd.underlying35 rfl infoPat ?_))
  refine (K3.out w6 HB.out).mono ?_
  rintro e7 w7 ⟨rfl, hb7⟩
  clear l0
  have HP := Lib.hid (HP.out.keep hb7 HP.out.lt)
  have HQ := Lib.hid (HQ.out.keep hb7 HQ.out.lt)
  have HB := Lib.hid (HB.out.trans (hb7.mono HB.out.size))
  clear hb7
  go_wp2_with fail
  refine (K4.out w7 HB.out).mono ?_
  rintro e8 w8 ⟨⟨a2, n2, c2, rfl, hi2, hb2x⟩, hb8⟩
  have HI2 := Lib.hid hi2
  have HAB2 : Hid (∀ b o, a2 = some ⟨b, o, none⟩ → n2 ≠ 0 → b ≠ qb) := Lib.hid (fun b o e h0 => by have := hb2x b o e h0; have := HQ.out.lt; omega)
  clear hi2 hb2x
  have HP := Lib.hid (HP.out.keep hb8 HP.out.lt)
  have HQ := Lib.hid (HQ.out.keep hb8 HQ.out.lt)
  have HB := Lib.hid (HB.out.trans (hb8.mono HB.out.size))
  clear hb8
  have hrs := HQ.out
  go_upto_region 13 with (refine Ops.wpList_store_arr rfl 35 _ _ rfl qb rfl 35 _ (boxP W H a2 n2 c2) rfl hrs rfl infoPat (boxP_one _ _ _ _ _) ?_; intro w9 hrn hon)
  clear hrs
  have HP := Lib.hid (HP.out.other hon HNHQ.out.1)
  have HI2 := Lib.hid (is_other3 HI2.out hon HAB2.out)
  have HB := Lib.hid (HB.out.trans (hon.below HNHQ.out.2))
  have HQ := Lib.hid hrn
  clear hrn hon
  have l0 := row_range HP.out
  have l1 := row_range HQ.out
  go_wp2_with (first | (refine wpList_load_mid rfl 35 _ rfl pb 0 rfl _ _ l0 Tryd.underlying35 rfl infoPat ?_) | (refine wpList_load_mid rfl 35 _ rfl qb 0 rfl _ _ l1 Tryd.underlying35 rfl infoPat ?_))
  refine (KB.out _ _ _ w9 HB.out HI2.out).mono ?_
  rintro e10 w10 ⟨rfl, hb10⟩
  clear l0 l1
  have HP := Lib.hid (HP.out.keep hb10 HP.out.lt)
  have HQ := Lib.hid (HQ.out.keep hb10 HQ.out.lt)
  have HB := Lib.hid (HB.out.trans (hb10.mono HB.out.size))
  clear hb10
  clear HI2 HAB2
  clear HQ
  go_upto_region 16 with fail
  have l0 := row_range HP.out
  go_wp2_with (first | (refine wpList_load_mid rfl 35 _ rfl pb 0 rfl _ _ l0 Tryd.underlying35 rfl infoPat ?_))
  refine (K5.out w10 HB.out).mono ?_
  rintro e11 w11 ⟨⟨a3, c3, rfl, hnc3, _, hi3, _⟩, hb11⟩
  clear l0
  have HI3 := Lib.hid hi3
  have HN3 := Lib.hid hnc3
  clear hi3 hnc3
  have HP := Lib.hid (HP.out.keep hb11 HP.out.lt)
  have HB := Lib.hid (HB.out.trans (hb11.mono HB.out.size))
  clear hb11
  have HNHU : Hid (pb ≠ w11.heap.size ∧ w.heap.size ≤ w11.heap.size) := Lib.hid ⟨Nat.ne_of_lt HP.out.lt, HB.out.size⟩
  have HNHUHI3 := Lib.hid (is_ne HI3.out)
  go_upto_region 17 with fail
  have hrx : Row (w11.alloc (.cells #[.int .i64 (QW : Nat), .int .i64 (QH : Nat), .slice a3 n c3] 35)) w11.heap.size 35 (boxP QW QH a3 n c3) := row_alloc w11 _ _
  have hbx : Below w11.heap.size w11 (w11.alloc (.cells #[.int .i64 (QW : Nat), .int .i64 (QH : Nat), .slice a3 n c3] 35)) := (Below.refl _ _).alloc (Nat.le_refl _) _
  have HP := Lib.hid (HP.out.keep hbx HP.out.lt)
  have HI3 := Lib.hid (HI3.out.keep hbx)
  have HB := Lib.hid (HB.out.trans (hbx.mono HB.out.size))
  clear hbx
  have HU := Lib.hid hrx
  clear hrx
  generalize w11.alloc (.cells #[.int .i64 (QW : Nat), .int .i64 (QH : Nat), .slice a3 n c3] 35) = w12 at *
  obtain ⟨ub, hub⟩ : ∃ ub, ub = w11.heap.size := ⟨_, rfl⟩
  rw [← hub] at HU HNHU HNHUHI3 ⊢
  clear hub
  have l0 := row_range HU.out
  go_wp2_with (first | (refine wpList_load_mid rfl 35 _ rfl ub 0 rfl _ _ l0 Tryd.underlying35 rfl infoPat ?_))
  refine (K6.out _ _ w12 HI3.out).mono ?_
  rintro e13 w13 ⟨⟨a4, n4, c4, rfl, hi4⟩, hb13⟩
  clear l0
  have HI4 := Lib.hid hi4
  clear hi4
  have HP := Lib.hid (HP.out.keep hb13 HP.out.lt)
  have HU := Lib.hid (HU.out.keep hb13 HU.out.lt)
  have HI3 := Lib.hid (HI3.out.keep hb13)
  have HB := Lib.hid (HB.out.trans (hb13.mono HB.out.size))
  clear hb13
  have HNHV : Hid (pb ≠ w13.heap.size ∧ ub ≠ w13.heap.size ∧ w.heap.size ≤ w13.heap.size) := Lib.hid ⟨Nat.ne_of_lt HP.out.lt, Nat.ne_of_lt HU.out.lt, HB.out.size⟩
  have HNHVHI3 := Lib.hid (is_ne HI3.out)
  have HNHVHI4 := Lib.hid (is_ne HI4.out)
  go_upto_region 23 with fail
  have hrx : Row (w13.alloc (.cells #[.int .i64 W, .int .i64 H, .slice a4 n4 c4] 35)) w13.heap.size 35 (boxP W H a4 n4 c4) := row_alloc w13 _ _
  have hbx : Below w13.heap.size w13 (w13.alloc (.cells #[.int .i64 W, .int .i64 H, .slice a4 n4 c4] 35)) := (Below.refl _ _).alloc (Nat.le_refl _) _
  have HP := Lib.hid (HP.out.keep hbx HP.out.lt)
  have HU := Lib.hid (HU.out.keep hbx HU.out.lt)
  have HI3 := Lib.hid (HI3.out.keep hbx)
  have HI4 := Lib.hid (HI4.out.keep hbx)
  have HB := Lib.hid (HB.out.trans (hbx.mono HB.out.size))
  clear hbx
  have HV := Lib.hid hrx
  clear hrx
  generalize w13.alloc (.cells #[.int .i64 W, .int .i64 H, .slice a4 n4 c4] 35) = w14 at *
  obtain ⟨vb, hvb⟩ : ∃ vb, vb = w13.heap.size := ⟨_, rfl⟩
  rw [← hvb] at HV HNHV HNHVHI3 HNHVHI4 ⊢
  clear hvb
  have l0 := row_range HP.out
  have l1 := row_range HV.out
  go_wp2_with (first | (refine wpList_load_mid rfl 35 _ rfl pb 0 rfl _ _ l0 Tryd.underlying35 rfl infoPat ?_) | (refine wpList_load_mid rfl 35 _ rfl vb 0 rfl _ _ l1 Tryd.underlying35 rfl infoPat ?_))
  refine (KB.out _ _ _ w14 HB.out HI4.out).mono ?_
  rintro e15 w15 ⟨rfl, hb15⟩
  clear l0 l1
  have HP := Lib.hid (HP.out.keep hb15 HP.out.lt)
  have HU := Lib.hid (HU.out.keep hb15 HU.out.lt)
  have HV := Lib.hid (HV.out.keep hb15 HV.out.lt)
  have HI3 := Lib.hid (HI3.out.keep hb15)
  have HI4 := Lib.hid (HI4.out.keep hb15)
  have HB := Lib.hid (HB.out.trans (hb15.mono HB.out.size))
  clear hb15
  clear HI4 HV
  have l0 := row_range HP.out
  go_wp2_with (first | (refine wpList_load_mid rfl 35 _ rfl pb 0 rfl _ _ l0 Tryd.underlying35 rfl infoPat ?_))
  refine (K7.out w15 HB.out).mono ?_
  rintro e16 w16 ⟨⟨a5, n5, c5, rfl, hi5⟩, hb16⟩
  clear l0
  have HI5 := Lib.hid hi5
  clear hi5
  have HP := Lib.hid (HP.out.keep hb16 HP.out.lt)
  have HU := Lib.hid (HU.out.keep hb16 HU.out.lt)
  have HI3 := Lib.hid (HI3.out.keep hb16)
  have HB := Lib.hid (HB.out.trans (hb16.mono HB.out.size))
  clear hb16
  have HNHA : Hid (pb ≠ w16.heap.size ∧ ub ≠ w16.heap.size ∧ w.heap.size ≤ w16.heap.size) := Lib.hid ⟨Nat.ne_of_lt HP.out.lt, Nat.ne_of_lt HU.out.lt, HB.out.size⟩
  have HNHAHI3 := Lib.hid (is_ne HI3.out)
  have HNHAHI5 := Lib.hid (is_ne HI5.out)
  go_upto_region 25 with fail
  have hrx : Row (w16.alloc (.cells #[.int .i64 (W1 : Nat), .int .i64 (H1 : Nat), .slice a5 n5 c5] 35)) w16.heap.size 35 (boxP W1 H1 a5 n5 c5) := row_alloc w16 _ _
  have hbx : Below w16.heap.size w16 (w16.alloc (.cells #[.int .i64 (W1 : Nat), .int .i64 (H1 : Nat), .slice a5 n5 c5] 35)) := (Below.refl _ _).alloc (Nat.le_refl _) _
  have HP := Lib.hid (HP.out.keep hbx HP.out.lt)
  have HU := Lib.hid (HU.out.keep hbx HU.out.lt)
  have HI3 := Lib.hid (HI3.out.keep hbx)
  have HI5 := Lib.hid (HI5.out.keep hbx)
  have HB := Lib.hid (HB.out.trans (hbx.mono HB.out.size))
  clear hbx
  have HA := Lib.hid hrx
  clear hrx
  generalize w16.alloc (.cells #[.int .i64 (W1 : Nat), .int .i64 (H1 : Nat), .slice a5 n5 c5] 35) = w17 at *
  obtain ⟨ab, hab⟩ : ∃ ab, ab = w16.heap.size := ⟨_, rfl⟩
  rw [← hab] at HA HNHA HNHAHI3 HNHAHI5 ⊢
  clear hab
  have l0 := row_range HU.out
  go_wp2_with (first | (refine wpList_load_mid rfl 35 _ rfl ub 0 rfl _ _ l0 Tryd.underlying35 rfl infoPat ?_))
  refine (K8.out w17 _ _ HI3.out HN3.out).mono ?_
  rintro e18 w18 ⟨⟨a6, n6, c6, rfl, hi6⟩, hb18⟩
  clear l0
  have HI6 := Lib.hid hi6
  clear hi6
  have HP := Lib.hid (HP.out.keep hb18 HP.out.lt)
  have HU := Lib.hid (HU.out.keep hb18 HU.out.lt)
  have HA := Lib.hid (HA.out.keep hb18 HA.out.lt)
  have HI3 := Lib.hid (HI3.out.keep hb18)
  have HI5 := Lib.hid (HI5.out.keep hb18)
  have HB := Lib.hid (HB.out.trans (hb18.mono HB.out.size))
  clear hb18
  have HNHG : Hid (pb ≠ w18.heap.size ∧ ub ≠ w18.heap.size ∧ ab ≠ w18.heap.size ∧ w.heap.size ≤ w18.heap.size) := Lib.hid ⟨Nat.ne_of_lt HP.out.lt, Nat.ne_of_lt HU.out.lt, Nat.ne_of_lt HA.out.lt, HB.out.size⟩
  have HNHGHI3 := Lib.hid (is_ne HI3.out)
  have HNHGHI5 := Lib.hid (is_ne HI5.out)
  have HNHGHI6 := Lib.hid (is_ne HI6.out)
  go_upto_region 26 with fail
  have hrx : Row (w18.alloc (.cells #[.int .i64 (W1 : Nat), .int .i64 (H1 : Nat), .slice a6 n6 c6] 35)) w18.heap.size 35 (boxP W1 H1 a6 n6 c6) := row_alloc w18 _ _
  have hbx : Below w18.heap.size w18 (w18.alloc (.cells #[.int .i64 (W1 : Nat), .int .i64 (H1 : Nat), .slice a6 n6 c6] 35)) := (Below.refl _ _).alloc (Nat.le_refl _) _
  have HP := Lib.hid (HP.out.keep hbx HP.out.lt)
  have HU := Lib.hid (HU.out.keep hbx HU.out.lt)
  have HA := Lib.hid (HA.out.keep hbx HA.out.lt)
  have HI3 := Lib.hid (HI3.out.keep hbx)
  have HI5 := Lib.hid (HI5.out.keep hbx)
  have HI6 := Lib.hid (HI6.out.keep hbx)
  have HB := Lib.hid (HB.out.trans (hbx.mono HB.out.size))
  clear hbx
  have HG := Lib.hid hrx
  clear hrx
  generalize w18.alloc (.cells #[.int .i64 (W1 : Nat), .int .i64 (H1 : Nat), .slice a6 n6 c6] 35) = w19 at *
  obtain ⟨gb, hgb⟩ : ∃ gb, gb = w18.heap.size := ⟨_, rfl⟩
  rw [← hgb] at HG HNHG HNHGHI3 HNHGHI5 HNHGHI6 ⊢
  clear hgb
  have l0 := row_range HA.out
  have l1 := row_range HG.out
  go_wp2_with (first | (refine wpList_load_mid rfl 35 _ rfl ab 0 rfl _ _ l0 Tryd.underlying35 rfl infoPat ?_) | (refine wpList_load_mid rfl 35 _ rfl gb 0 rfl _ _ l1 Tryd.underlying35 rfl infoPat ?_))
  refine (KA.out _ _ _ _ _ _ w19 HI5.out HI6.out).mono ?_
  rintro e20 w20 ⟨rfl, hb20⟩
  clear l0 l1
  have HP := Lib.hid (HP.out.keep hb20 HP.out.lt)
  have HU := Lib.hid (HU.out.keep hb20 HU.out.lt)
  have HA := Lib.hid (HA.out.keep hb20 HA.out.lt)
  have HG := Lib.hid (HG.out.keep hb20 HG.out.lt)
  have HI3 := Lib.hid (HI3.out.keep hb20)
  have HI5 := Lib.hid (HI5.out.keep hb20)
  have HI6 := Lib.hid (HI6.out.keep hb20)
  have HB := Lib.hid (HB.out.trans (hb20.mono HB.out.size))
  clear hb20
  clear HP HU HA HG
  go_wp2_with fail
  go_ret
  exact ⟨rfl, HB.out⟩
set_option maxHeartbeats 16000000 in
set_option maxRecDepth 1000000 in
theorem pback_high_e (W H : Nat) (a : Option Addr) (n c : Nat) (f : Nat → Nat → Nat) (k : Nat) (hk : 4 ≤ k ∧ k < 8) (hE : H = 0 ∧ W ≠ 0) (w : World) (hT : Tab w) (hU : UTabs w) (hM : Marks w) (hZ : Ints.Is w a n (flat W H f)) (hn : n = W * H) (hc : n ≤ c) (hW : W ≤ 100) (hH : H ≤ 100) (hf : ∀ x y, f x y < 2) (hp : pfault W H (flat W H f) = 0) :
    Calls Tryd.prog 6 #[.agg #[.int .i64 W, .int .i64 H, .slice a n c], .int .i64 k] w fun e w' => e = .returned (.bool true) ∧ Below w.heap.size w w' := by
  have K1 := Lib.hid (fun w2 (h : Below w.heap.size w w2) => Runs_ok W H a n c f w2 (hT.keep h) (hZ.keep h) hn hc hW hH hf hp)
  have K2 := Lib.hid (fun w2 => read_runs W H f w2 hW hH hf)
  have K3 := Lib.hid (fun w2 (h : Below w.heap.size w w2) => Draw_ok W H a n c f w2 (hM.keep h) (hZ.keep h) hn hW hH hf hp)
  have K4 := Lib.hid (fun w2 (h : Below w.heap.size w w2) => read_draw W H f w2 (hU.keep h) (hM.keep h) hW hH hf)
  have KB := Lib.hid (fun (a2 : Option Addr) (n2 c2 : Nat) w2 (h : Below w.heap.size w w2) h2 => back_same W H a n c a2 n2 c2 (flat W H f) w2 (hZ.keep h) h2)
  have hW0 : (W : Int) ≠ ((if H = 0 then 0 else W : Nat) : Int) := by rw [if_pos hE.1]; have := hE.2; omega
  have KC := Lib.hid (fun (a2 : Option Addr) (n2 c2 : Nat) w2 (h : Below w.heap.size w w2) h2 => back_other W H a n c _ hW0 a2 n2 c2 (flat W H f) w2 (hZ.keep h) h2)
  have hz0 : ¬ (0 : Int) < (H : Int) := by have := hE.1; omega
  generalize (if H = 0 then 0 else W : Nat) = W0 at *
  clear hW0
  have hk8 : k < 8 := by omega
  have K5 := Lib.hid (fun w2 (h : Below w.heap.size w w2) => Turn_ok W H k a n c f w2 (hZ.keep h) hn (by omega) (by omega) hk8 hp)
  have K6 := Lib.hid (fun (a2 : Option Addr) (c2 : Nat) w2 h2 => turn_again W H k n f hn hW hH hf hk8 a2 c2 w2 h2)
  obtain ⟨W1, H1, z1, o1, o2⟩ := canon_two W H k a n c f w hZ hn hc hW hH hf hk8
  have K7 := Lib.hid o1
  have K8 := Lib.hid o2
  have KA := Lib.hid (fun (a1 a2 : Option Addr) (n1 c1 n2 c2 : Nat) w2 h1 h2 => alike_same W1 H1 a1 n1 c1 a2 n2 c2 z1 w2 h1 h2)
  have hk4 : ¬ (k : Int) < 4 := by omega
  have hj : invT k = k := by unfold invT; rw [if_neg (by omega)]
  rw [hj] at K6
  clear hj
  generalize qW W H (k % 4) = QW at *
  generalize qH W H (k % 4) = QH at *
  generalize flat QW QH (tF W H f k) = zq at *

  clear o1 o2 hk hk8
  generalize ByteArray.mk (runsS W H f).toArray = sr at *
  generalize ByteArray.mk (drawS W H f).toArray = sd at *
  generalize flat W H f = zp at *
  clear hT hU hZ hc hM hn hW hH hf hp hE
  go_enter Tryd.func6, Tryd.ntmps6
  go_upto_region 1 with fail
  have HP : Hid (Row (w.alloc (.cells #[.int .i64 W, .int .i64 H, .slice a n c] 35)) w.heap.size 35 (boxP W H a n c)) := Lib.hid (row_alloc w _ (boxP W H a n c))
  have HB : Hid (Below w.heap.size w (w.alloc (.cells #[.int .i64 W, .int .i64 H, .slice a n c] 35))) := Lib.hid ((Below.refl _ _).alloc (Nat.le_refl _) _)
  generalize w.alloc (.cells #[.int .i64 W, .int .i64 H, .slice a n c] 35) = w0 at *
  obtain ⟨pb, hpb⟩ : ∃ pb, pb = w.heap.size := ⟨_, rfl⟩
  rw [← hpb] at HP ⊢
  clear hpb
  go_wp2_with fail
  refine (fact_any w0).mono ?_
  rintro e1 w1 ⟨⟨a0, c0, rfl, hi0⟩, hb1⟩
  have HI0 := Lib.hid hi0
  clear hi0
  have HP := Lib.hid (HP.out.keep hb1 HP.out.lt)
  have HB := Lib.hid (HB.out.trans (hb1.mono HB.out.size))
  clear hb1
  have HNHF : Hid (pb ≠ w1.heap.size ∧ w.heap.size ≤ w1.heap.size) := Lib.hid ⟨Nat.ne_of_lt HP.out.lt, HB.out.size⟩
  have HNHFHI0 := Lib.hid (is_ne HI0.out)
  go_upto_region 2 with fail
  have hrx : Row (w1.alloc (.cells #[.int .i64 2, .int .i64 1, .slice a0 2 c0] 35)) w1.heap.size 35 (boxP 2 1 a0 2 c0) := row_alloc w1 _ _
  have hbx : Below w1.heap.size w1 (w1.alloc (.cells #[.int .i64 2, .int .i64 1, .slice a0 2 c0] 35)) := (Below.refl _ _).alloc (Nat.le_refl _) _
  have HP := Lib.hid (HP.out.keep hbx HP.out.lt)
  have HI0 := Lib.hid (HI0.out.keep hbx)
  have HB := Lib.hid (HB.out.trans (hbx.mono HB.out.size))
  clear hbx
  have HF := Lib.hid hrx
  clear hrx
  generalize w1.alloc (.cells #[.int .i64 2, .int .i64 1, .slice a0 2 c0] 35) = w2 at *
  obtain ⟨fb, hfb⟩ : ∃ fb, fb = w1.heap.size := ⟨_, rfl⟩
  rw [← hfb] at HF HNHF HNHFHI0 ⊢
  clear hfb
  obtain ⟨b0, o0, e0, _, hc1⟩ := HI0.out.cells 1 (by decide)
  subst e0
  have hc1 := (hc1 : _ = some (Value.int .i64 1))
  have f0 := HF.out.cell 0
  have f1 := HF.out.cell 1
  have f2 := HF.out.cell 2
  unfold boxP at f0 f1 f2
  dsimp only [List.getElem?_cons_succ, List.getElem?_cons_zero] at f0 f1 f2
  go_upto_region 4 with fail
  clear hc1 f0 f1 f2
  clear HF HI0
  have l0 := row_range HP.out
  go_wp2_with (first | (refine wpList_load_mid rfl 35 _ rfl pb 0 rfl _ _ l0 Tryd.underlying35 rfl infoPat ?_))
  refine (K1.out w2 HB.out).mono ?_
  rintro e3 w3 ⟨rfl, hb3⟩
  clear l0
  have HP := Lib.hid (HP.out.keep hb3 HP.out.lt)
  have HB := Lib.hid (HB.out.trans (hb3.mono HB.out.size))
  clear hb3
  go_wp2_with fail
  refine (K2.out w3).mono ?_
  rintro e4 w4 ⟨⟨a1, n1, c1, rfl, hi1⟩, hb4⟩
  have HI1 := Lib.hid hi1
  clear hi1
  have HP := Lib.hid (HP.out.keep hb4 HP.out.lt)
  have HB := Lib.hid (HB.out.trans (hb4.mono HB.out.size))
  clear hb4
  have HNHQ : Hid (pb ≠ w4.heap.size ∧ w.heap.size ≤ w4.heap.size) := Lib.hid ⟨Nat.ne_of_lt HP.out.lt, HB.out.size⟩
  have HNHQHI1 := Lib.hid (is_ne HI1.out)
  go_upto_region 8 with fail
  have hrx : Row (w4.alloc (.cells #[.int .i64 W, .int .i64 H, .slice a1 n1 c1] 35)) w4.heap.size 35 (boxP W H a1 n1 c1) := row_alloc w4 _ _
  have hbx : Below w4.heap.size w4 (w4.alloc (.cells #[.int .i64 W, .int .i64 H, .slice a1 n1 c1] 35)) := (Below.refl _ _).alloc (Nat.le_refl _) _
  have HP := Lib.hid (HP.out.keep hbx HP.out.lt)
  have HI1 := Lib.hid (HI1.out.keep hbx)
  have HB := Lib.hid (HB.out.trans (hbx.mono HB.out.size))
  clear hbx
  have HQ := Lib.hid hrx
  clear hrx
  generalize w4.alloc (.cells #[.int .i64 W, .int .i64 H, .slice a1 n1 c1] 35) = w5 at *
  obtain ⟨qb, hqb⟩ : ∃ qb, qb = w4.heap.size := ⟨_, rfl⟩
  rw [← hqb] at HQ HNHQ HNHQHI1 ⊢
  clear hqb
  have l0 := row_range HP.out
  have l1 := row_range HQ.out
  go_wp2_with (first | (refine wpList_load_mid rfl 35 _ rfl pb 0 rfl _ _ l0 Tryd.underlying35 rfl infoPat ?_) | (refine wpList_load_mid rfl 35 _ rfl qb 0 rfl _ _ l1 Tryd.underlying35 rfl infoPat ?_))
  refine (KB.out _ _ _ w5 HB.out HI1.out).mono ?_
  rintro e6 w6 ⟨rfl, hb6⟩
  clear l0 l1
  have HP := Lib.hid (HP.out.keep hb6 HP.out.lt)
  have HQ := Lib.hid (HQ.out.keep hb6 HQ.out.lt)
  have HI1 := Lib.hid (HI1.out.keep hb6)
  have HB := Lib.hid (HB.out.trans (hb6.mono HB.out.size))
  clear hb6
  clear HI1
  have l0 := row_range HP.out
  go_wp2_with (first | (refine wpList_load_mid rfl 35 _ rfl pb 0 rfl _ _ l0 Tryd.underlying35 rfl infoPat ?_))
  refine (K3.out w6 HB.out).mono ?_
  rintro e7 w7 ⟨rfl, hb7⟩
  clear l0
  have HP := Lib.hid (HP.out.keep hb7 HP.out.lt)
  have HQ := Lib.hid (HQ.out.keep hb7 HQ.out.lt)
  have HB := Lib.hid (HB.out.trans (hb7.mono HB.out.size))
  clear hb7
  go_wp2_with fail
  refine (K4.out w7 HB.out).mono ?_
  rintro e8 w8 ⟨⟨a2, n2, c2, rfl, hi2, hb2x⟩, hb8⟩
  have HI2 := Lib.hid hi2
  have HAB2 : Hid (∀ b o, a2 = some ⟨b, o, none⟩ → n2 ≠ 0 → b ≠ qb) := Lib.hid (fun b o e h0 => by have := hb2x b o e h0; have := HQ.out.lt; omega)
  clear hi2 hb2x
  have HP := Lib.hid (HP.out.keep hb8 HP.out.lt)
  have HQ := Lib.hid (HQ.out.keep hb8 HQ.out.lt)
  have HB := Lib.hid (HB.out.trans (hb8.mono HB.out.size))
  clear hb8
  have hrs := HQ.out
  go_upto_region 13 with (refine Ops.wpList_store_arr rfl 35 _ _ rfl qb rfl 35 _ (boxP W0 H a2 n2 c2) rfl hrs rfl infoPat (boxP_one _ _ _ _ _) ?_; intro w9 hrn hon)
  clear hrs
  have HP := Lib.hid (HP.out.other hon HNHQ.out.1)
  have HI2 := Lib.hid (is_other3 HI2.out hon HAB2.out)
  have HB := Lib.hid (HB.out.trans (hon.below HNHQ.out.2))
  have HQ := Lib.hid hrn
  clear hrn hon
  have l0 := row_range HP.out
  have l1 := row_range HQ.out
  go_wp2_with (first | (refine wpList_load_mid rfl 35 _ rfl pb 0 rfl _ _ l0 Tryd.underlying35 rfl infoPat ?_) | (refine wpList_load_mid rfl 35 _ rfl qb 0 rfl _ _ l1 Tryd.underlying35 rfl infoPat ?_))
  refine (KC.out _ _ _ w9 HB.out HI2.out).mono ?_
  rintro e10 w10 ⟨rfl, hb10⟩
  clear l0 l1
  have HP := Lib.hid (HP.out.keep hb10 HP.out.lt)
  have HQ := Lib.hid (HQ.out.keep hb10 HQ.out.lt)
  have HB := Lib.hid (HB.out.trans (hb10.mono HB.out.size))
  clear hb10
  clear HI2 HAB2
  clear HQ
  have p1 := HP.out.cell 1
  unfold boxP at p1
  dsimp only [List.getElem?_cons_succ, List.getElem?_cons_zero] at p1
  go_upto_region 16 with fail
  clear p1
  have l0 := row_range HP.out
  go_wp2_with (first | (refine wpList_load_mid rfl 35 _ rfl pb 0 rfl _ _ l0 Tryd.underlying35 rfl infoPat ?_))
  refine (K5.out w10 HB.out).mono ?_
  rintro e11 w11 ⟨⟨a3, c3, rfl, hnc3, _, hi3, _⟩, hb11⟩
  clear l0
  have HI3 := Lib.hid hi3
  have HN3 := Lib.hid hnc3
  clear hi3 hnc3
  have HP := Lib.hid (HP.out.keep hb11 HP.out.lt)
  have HB := Lib.hid (HB.out.trans (hb11.mono HB.out.size))
  clear hb11
  have HNHU : Hid (pb ≠ w11.heap.size ∧ w.heap.size ≤ w11.heap.size) := Lib.hid ⟨Nat.ne_of_lt HP.out.lt, HB.out.size⟩
  have HNHUHI3 := Lib.hid (is_ne HI3.out)
  go_upto_region 17 with fail
  have hrx : Row (w11.alloc (.cells #[.int .i64 (QW : Nat), .int .i64 (QH : Nat), .slice a3 n c3] 35)) w11.heap.size 35 (boxP QW QH a3 n c3) := row_alloc w11 _ _
  have hbx : Below w11.heap.size w11 (w11.alloc (.cells #[.int .i64 (QW : Nat), .int .i64 (QH : Nat), .slice a3 n c3] 35)) := (Below.refl _ _).alloc (Nat.le_refl _) _
  have HP := Lib.hid (HP.out.keep hbx HP.out.lt)
  have HI3 := Lib.hid (HI3.out.keep hbx)
  have HB := Lib.hid (HB.out.trans (hbx.mono HB.out.size))
  clear hbx
  have HU := Lib.hid hrx
  clear hrx
  generalize w11.alloc (.cells #[.int .i64 (QW : Nat), .int .i64 (QH : Nat), .slice a3 n c3] 35) = w12 at *
  obtain ⟨ub, hub⟩ : ∃ ub, ub = w11.heap.size := ⟨_, rfl⟩
  rw [← hub] at HU HNHU HNHUHI3 ⊢
  clear hub
  have l0 := row_range HU.out
  go_wp2_with (first | (refine wpList_load_mid rfl 35 _ rfl ub 0 rfl _ _ l0 Tryd.underlying35 rfl infoPat ?_))
  refine (K6.out _ _ w12 HI3.out).mono ?_
  rintro e13 w13 ⟨⟨a4, n4, c4, rfl, hi4⟩, hb13⟩
  clear l0
  have HI4 := Lib.hid hi4
  clear hi4
  have HP := Lib.hid (HP.out.keep hb13 HP.out.lt)
  have HU := Lib.hid (HU.out.keep hb13 HU.out.lt)
  have HI3 := Lib.hid (HI3.out.keep hb13)
  have HB := Lib.hid (HB.out.trans (hb13.mono HB.out.size))
  clear hb13
  have HNHV : Hid (pb ≠ w13.heap.size ∧ ub ≠ w13.heap.size ∧ w.heap.size ≤ w13.heap.size) := Lib.hid ⟨Nat.ne_of_lt HP.out.lt, Nat.ne_of_lt HU.out.lt, HB.out.size⟩
  have HNHVHI3 := Lib.hid (is_ne HI3.out)
  have HNHVHI4 := Lib.hid (is_ne HI4.out)
  go_upto_region 23 with fail
  have hrx : Row (w13.alloc (.cells #[.int .i64 W, .int .i64 H, .slice a4 n4 c4] 35)) w13.heap.size 35 (boxP W H a4 n4 c4) := row_alloc w13 _ _
  have hbx : Below w13.heap.size w13 (w13.alloc (.cells #[.int .i64 W, .int .i64 H, .slice a4 n4 c4] 35)) := (Below.refl _ _).alloc (Nat.le_refl _) _
  have HP := Lib.hid (HP.out.keep hbx HP.out.lt)
  have HU := Lib.hid (HU.out.keep hbx HU.out.lt)
  have HI3 := Lib.hid (HI3.out.keep hbx)
  have HI4 := Lib.hid (HI4.out.keep hbx)
  have HB := Lib.hid (HB.out.trans (hbx.mono HB.out.size))
  clear hbx
  have HV := Lib.hid hrx
  clear hrx
  generalize w13.alloc (.cells #[.int .i64 W, .int .i64 H, .slice a4 n4 c4] 35) = w14 at *
  obtain ⟨vb, hvb⟩ : ∃ vb, vb = w13.heap.size := ⟨_, rfl⟩
  rw [← hvb] at HV HNHV HNHVHI3 HNHVHI4 ⊢
  clear hvb
  have l0 := row_range HP.out
  have l1 := row_range HV.out
  go_wp2_with (first | (refine wpList_load_mid rfl 35 _ rfl pb 0 rfl _ _ l0 Tryd.underlying35 rfl infoPat ?_) | (refine wpList_load_mid rfl 35 _ rfl vb 0 rfl _ _ l1 Tryd.underlying35 rfl infoPat ?_))
  refine (KB.out _ _ _ w14 HB.out HI4.out).mono ?_
  rintro e15 w15 ⟨rfl, hb15⟩
  clear l0 l1
  have HP := Lib.hid (HP.out.keep hb15 HP.out.lt)
  have HU := Lib.hid (HU.out.keep hb15 HU.out.lt)
  have HV := Lib.hid (HV.out.keep hb15 HV.out.lt)
  have HI3 := Lib.hid (HI3.out.keep hb15)
  have HI4 := Lib.hid (HI4.out.keep hb15)
  have HB := Lib.hid (HB.out.trans (hb15.mono HB.out.size))
  clear hb15
  clear HI4 HV
  have l0 := row_range HP.out
  go_wp2_with (first | (refine wpList_load_mid rfl 35 _ rfl pb 0 rfl _ _ l0 Tryd.underlying35 rfl infoPat ?_))
  refine (K7.out w15 HB.out).mono ?_
  rintro e16 w16 ⟨⟨a5, n5, c5, rfl, hi5⟩, hb16⟩
  clear l0
  have HI5 := Lib.hid hi5
  clear hi5
  have HP := Lib.hid (HP.out.keep hb16 HP.out.lt)
  have HU := Lib.hid (HU.out.keep hb16 HU.out.lt)
  have HI3 := Lib.hid (HI3.out.keep hb16)
  have HB := Lib.hid (HB.out.trans (hb16.mono HB.out.size))
  clear hb16
  have HNHA : Hid (pb ≠ w16.heap.size ∧ ub ≠ w16.heap.size ∧ w.heap.size ≤ w16.heap.size) := Lib.hid ⟨Nat.ne_of_lt HP.out.lt, Nat.ne_of_lt HU.out.lt, HB.out.size⟩
  have HNHAHI3 := Lib.hid (is_ne HI3.out)
  have HNHAHI5 := Lib.hid (is_ne HI5.out)
  go_upto_region 25 with fail
  have hrx : Row (w16.alloc (.cells #[.int .i64 (W1 : Nat), .int .i64 (H1 : Nat), .slice a5 n5 c5] 35)) w16.heap.size 35 (boxP W1 H1 a5 n5 c5) := row_alloc w16 _ _
  have hbx : Below w16.heap.size w16 (w16.alloc (.cells #[.int .i64 (W1 : Nat), .int .i64 (H1 : Nat), .slice a5 n5 c5] 35)) := (Below.refl _ _).alloc (Nat.le_refl _) _
  have HP := Lib.hid (HP.out.keep hbx HP.out.lt)
  have HU := Lib.hid (HU.out.keep hbx HU.out.lt)
  have HI3 := Lib.hid (HI3.out.keep hbx)
  have HI5 := Lib.hid (HI5.out.keep hbx)
  have HB := Lib.hid (HB.out.trans (hbx.mono HB.out.size))
  clear hbx
  have HA := Lib.hid hrx
  clear hrx
  generalize w16.alloc (.cells #[.int .i64 (W1 : Nat), .int .i64 (H1 : Nat), .slice a5 n5 c5] 35) = w17 at *
  obtain ⟨ab, hab⟩ : ∃ ab, ab = w16.heap.size := ⟨_, rfl⟩
  rw [← hab] at HA HNHA HNHAHI3 HNHAHI5 ⊢
  clear hab
  have l0 := row_range HU.out
  go_wp2_with (first | (refine wpList_load_mid rfl 35 _ rfl ub 0 rfl _ _ l0 Tryd.underlying35 rfl infoPat ?_))
  refine (K8.out w17 _ _ HI3.out HN3.out).mono ?_
  rintro e18 w18 ⟨⟨a6, n6, c6, rfl, hi6⟩, hb18⟩
  clear l0
  have HI6 := Lib.hid hi6
  clear hi6
  have HP := Lib.hid (HP.out.keep hb18 HP.out.lt)
  have HU := Lib.hid (HU.out.keep hb18 HU.out.lt)
  have HA := Lib.hid (HA.out.keep hb18 HA.out.lt)
  have HI3 := Lib.hid (HI3.out.keep hb18)
  have HI5 := Lib.hid (HI5.out.keep hb18)
  have HB := Lib.hid (HB.out.trans (hb18.mono HB.out.size))
  clear hb18
  have HNHG : Hid (pb ≠ w18.heap.size ∧ ub ≠ w18.heap.size ∧ ab ≠ w18.heap.size ∧ w.heap.size ≤ w18.heap.size) := Lib.hid ⟨Nat.ne_of_lt HP.out.lt, Nat.ne_of_lt HU.out.lt, Nat.ne_of_lt HA.out.lt, HB.out.size⟩
  have HNHGHI3 := Lib.hid (is_ne HI3.out)
  have HNHGHI5 := Lib.hid (is_ne HI5.out)
  have HNHGHI6 := Lib.hid (is_ne HI6.out)
  go_upto_region 26 with fail
  have hrx : Row (w18.alloc (.cells #[.int .i64 (W1 : Nat), .int .i64 (H1 : Nat), .slice a6 n6 c6] 35)) w18.heap.size 35 (boxP W1 H1 a6 n6 c6) := row_alloc w18 _ _
  have hbx : Below w18.heap.size w18 (w18.alloc (.cells #[.int .i64 (W1 : Nat), .int .i64 (H1 : Nat), .slice a6 n6 c6] 35)) := (Below.refl _ _).alloc (Nat.le_refl _) _
  have HP := Lib.hid (HP.out.keep hbx HP.out.lt)
  have HU := Lib.hid (HU.out.keep hbx HU.out.lt)
  have HA := Lib.hid (HA.out.keep hbx HA.out.lt)
  have HI3 := Lib.hid (HI3.out.keep hbx)
  have HI5 := Lib.hid (HI5.out.keep hbx)
  have HI6 := Lib.hid (HI6.out.keep hbx)
  have HB := Lib.hid (HB.out.trans (hbx.mono HB.out.size))
  clear hbx
  have HG := Lib.hid hrx
  clear hrx
  generalize w18.alloc (.cells #[.int .i64 (W1 : Nat), .int .i64 (H1 : Nat), .slice a6 n6 c6] 35) = w19 at *
  obtain ⟨gb, hgb⟩ : ∃ gb, gb = w18.heap.size := ⟨_, rfl⟩
  rw [← hgb] at HG HNHG HNHGHI3 HNHGHI5 HNHGHI6 ⊢
  clear hgb
  have l0 := row_range HA.out
  have l1 := row_range HG.out
  go_wp2_with (first | (refine wpList_load_mid rfl 35 _ rfl ab 0 rfl _ _ l0 Tryd.underlying35 rfl infoPat ?_) | (refine wpList_load_mid rfl 35 _ rfl gb 0 rfl _ _ l1 Tryd.underlying35 rfl infoPat ?_))
  refine (KA.out _ _ _ _ _ _ w19 HI5.out HI6.out).mono ?_
  rintro e20 w20 ⟨rfl, hb20⟩
  clear l0 l1
  have HP := Lib.hid (HP.out.keep hb20 HP.out.lt)
  have HU := Lib.hid (HU.out.keep hb20 HU.out.lt)
  have HA := Lib.hid (HA.out.keep hb20 HA.out.lt)
  have HG := Lib.hid (HG.out.keep hb20 HG.out.lt)
  have HI3 := Lib.hid (HI3.out.keep hb20)
  have HI5 := Lib.hid (HI5.out.keep hb20)
  have HI6 := Lib.hid (HI6.out.keep hb20)
  have HB := Lib.hid (HB.out.trans (hb20.mono HB.out.size))
  clear hb20
  clear HP HU HA HG
  go_wp2_with fail
  go_ret
  exact ⟨rfl, HB.out⟩
theorem pback_any (W H : Int) (a : Option Addr) (n c : Nat) (zs : List Int) (k : Int) (w : World) (hT : Tab w) (hU : UTabs w) (hM : Marks w) (hZ : Ints.Is w a n zs) (hc : n ≤ c) :
    Calls Tryd.prog 6 #[.agg #[.int .i64 W, .int .i64 H, .slice a n c], .int .i64 k] w fun e w' => e = .returned (.bool true) ∧ Below w.heap.size w w' := by
  by_cases h : pfault W H zs = 0
  · obtain ⟨W', H', rfl, rfl, hW, hH, hl, hz, hf⟩ := pfault_zero h
    have hn : n = W' * H' := by rw [← hl]; exact hZ.len.symm
    rw [hz] at hZ h
    by_cases h1 : k < 0 ∨ 7 < k
    · by_cases he : H' = 0 ∧ W' ≠ 0
      · exact pback_far_e W' H' a n c _ k h1 he w hT hU hM hZ hn hc hW hH hf h
      · exact pback_far W' H' a n c _ k h1 he w hT hU hM hZ hn hc hW hH hf h
    · obtain ⟨kn, rfl⟩ : ∃ kn : Nat, k = kn := ⟨k.toNat, by omega⟩
      by_cases h4 : kn < 4
      · by_cases he : H' = 0 ∧ W' ≠ 0
        · exact pback_low_e W' H' a n c _ kn h4 he w hT hU hM hZ hn hc hW hH hf h
        · exact pback_low W' H' a n c _ kn h4 he w hT hU hM hZ hn hc hW hH hf h
      · by_cases he : H' = 0 ∧ W' ≠ 0
        · exact pback_high_e W' H' a n c _ kn (by omega) he w hT hU hM hZ hn hc hW hH hf h
        · exact pback_high W' H' a n c _ kn (by omega) he w hT hU hM hZ hn hc hW hH hf h
  · exact pback_bad W H a n c zs k w hT hU hM hZ hc h
end Pr
end Go.Proofs.YtgagophijmiceaaDoor
