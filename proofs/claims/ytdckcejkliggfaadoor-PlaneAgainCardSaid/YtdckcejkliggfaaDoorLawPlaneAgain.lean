/- THE LAW PlaneAgain: its walk, out of its callees' contracts. -/
import Derived.Test.YtdckcejkliggfaaDoorPnEq
import Derived.Test.YtdckcejkliggfaaDoorSame
import Derived.Laws.StructEq
namespace Go.Proofs.YtdckcejkliggfaaDoor
set_option linter.unusedSimpArgs false
set_option linter.unusedVariables false
open Go.RowKit
namespace Pn
open Tld Mem Bl
theorem plf_bound (K B S st ra : Int) (tn : Nat) (tz : List Int) (tu : ByteArray) (W H : Int) (zs : List Int) : -1000 ≤ plf K B S st ra tn tz tu W H zs ∧ plf K B S st ra tn tz tu W H zs ≤ 1000 := by
  have hr : rulf K B S st ra tn tz tu = 0 ∨ rulf K B S st ra tn tz tu = 1 := by
    unfold rulf
    split
    · by_cases h : Ln.Ok 2 B S st ra tz tu
      · exact .inl (Ln.lfault_ok h)
      · exact .inr (Ln.lfault_no h)
    · exact Ln.ofault_01 K B S st ra tn tu
  have hp : pfault W H zs = 0 ∨ pfault W H zs = 1 ∨ pfault W H zs = 3 := by
    unfold pfault
    split
    · exact .inr (.inl rfl)
    · split
      · exact .inr (.inr rfl)
      · split
        · exact .inr (.inl rfl)
        · exact .inl rfl
  unfold plf
  split
  · omega
  · split
    · omega
    · split <;> omega
set_option maxHeartbeats 16000000 in
set_option maxRecDepth 1000000 in
theorem planeAgain_bad (K B S st ra : Int) (ta : Option Addr) (tn tc : Nat) (tz : List Int) (tu : ByteArray) (W H : Int) (a : Option Addr) (n c : Nat) (zs : List Int) (m : Int) (w : World) (hL : Tld.Laid w) (hT : Ints.Is w ta tn tz) (hu : tu.size ≤ 9223372036854775807) (hZ : Ints.Is w a n zs) (hc : n ≤ c) (hf : plf K B S st ra tn tz tu W H zs ≠ 0) :
    Calls Tryd.prog 5 #[.agg #[.int .i64 K, .int .i64 B, .int .i64 S, .int .i64 st, .int .i64 ra, .slice ta tn tc, .string tu], .agg #[.int .i64 W, .int .i64 H, .slice a n c], .int .i64 m] w fun e w' => e = .returned (.bool true) ∧ Below w.heap.size w w' := by
  have hbd := plf_bound K B S st ra tn tz tu W H zs
  have ha : afl K B S st ra tn tz tu W H zs m = plf K B S st ra tn tz tu W H zs := by unfold afl; rw [if_pos hf]
  have K1 := Lib.hid (fun w2 (h : Below w.heap.size w w2) => fault3_any K B S st ra ta tn tc tz tu W H a n c zs w2 (hT.keep h) hu (hZ.keep h))
  have K2 := Lib.hid (fun w2 (h : Below w.heap.size w w2) => again_bad K B S st ra ta tn tc tz tu W H a n c zs m w2 (hT.keep h) hu (hZ.keep h) (by rw [ha]; exact hf))
  have K3 := Lib.hid (fun w2 (h : Below w.heap.size w w2) => same_self (plf K B S st ra tn tz tu W H zs) w2 (hL.keep h) hbd)
  rw [ha] at K2
  generalize plf K B S st ra tn tz tu W H zs = ev at *
  have e0 : (ev == 0) = false := by rw [beq_eq_false_iff_ne]; exact hf
  generalize errV ev = fv at *
  clear hT hu hZ hf ha hbd hL hc
  go_enter Tryd.func5, Tryd.ntmps5
  go_upto_region 1 with fail
  obtain ⟨hr1, hr2, hb2⟩ := two_new w 24 26 (rulP K B S st ra ta tn tc tu) (boxP W H a n c)
  have HU : Hid (Row ((w.alloc (.cells #[.int .i64 K, .int .i64 B, .int .i64 S, .int .i64 st, .int .i64 ra, .slice ta tn tc, .string tu] 24)).alloc (.cells #[.int .i64 W, .int .i64 H, .slice a n c] 26)) w.heap.size 24 (rulP K B S st ra ta tn tc tu)) := hr1
  have HP : Hid (Row ((w.alloc (.cells #[.int .i64 K, .int .i64 B, .int .i64 S, .int .i64 st, .int .i64 ra, .slice ta tn tc, .string tu] 24)).alloc (.cells #[.int .i64 W, .int .i64 H, .slice a n c] 26)) (w.heap.size + 1) 26 (boxP W H a n c)) := hr2
  have HB : Hid (Below w.heap.size w ((w.alloc (.cells #[.int .i64 K, .int .i64 B, .int .i64 S, .int .i64 st, .int .i64 ra, .slice ta tn tc, .string tu] 24)).alloc (.cells #[.int .i64 W, .int .i64 H, .slice a n c] 26))) := hb2
  clear hr1 hr2 hb2
  generalize (w.alloc (.cells #[.int .i64 K, .int .i64 B, .int .i64 S, .int .i64 st, .int .i64 ra, .slice ta tn tc, .string tu] 24)).alloc (.cells #[.int .i64 W, .int .i64 H, .slice a n c] 26) = w0 at *
  obtain ⟨ub, hub⟩ : ∃ ub, ub = w.heap.size := ⟨_, rfl⟩
  rw [← hub] at HU HP ⊢
  obtain ⟨pb, hpb⟩ : ∃ pb, pb = ub + 1 := ⟨_, rfl⟩
  rw [← hpb] at HP ⊢
  clear hub hpb
  have l0 := row_range HU.out
  have l1 := row_range HP.out
  go_wp2_with (first | (refine wpList_load_mid rfl 24 _ rfl ub 0 rfl _ _ l0 Tryd.underlying24 rfl infoRule ?_) | (refine wpList_load_mid rfl 26 _ rfl pb 0 rfl _ _ l1 Tryd.underlying26 rfl infoPat ?_))
  refine (K1.out w0 HB.out).mono ?_
  rintro e1 w1 ⟨rfl, hb1⟩
  clear l0 l1
  have HU := Lib.hid (HU.out.keep hb1 HU.out.lt)
  have HP := Lib.hid (HP.out.keep hb1 HP.out.lt)
  have HB := Lib.hid (HB.out.trans (hb1.mono HB.out.size))
  clear hb1
  have HNHA : Hid (ub ≠ w1.heap.size ∧ pb ≠ w1.heap.size ∧ w.heap.size ≤ w1.heap.size) := Lib.hid ⟨Nat.ne_of_lt HU.out.lt, Nat.ne_of_lt HP.out.lt, HB.out.size⟩
  go_upto_region 3 with fail
  have hrx : Row (w1.alloc (.cells #[.int .i64 0, .int .i64 0, .int .i64 0] 35)) w1.heap.size 35 (z3) := row_alloc w1 _ _
  have hbx : Below w1.heap.size w1 (w1.alloc (.cells #[.int .i64 0, .int .i64 0, .int .i64 0] 35)) := (Below.refl _ _).alloc (Nat.le_refl _) _
  have HU := Lib.hid (HU.out.keep hbx HU.out.lt)
  have HP := Lib.hid (HP.out.keep hbx HP.out.lt)
  have HB := Lib.hid (HB.out.trans (hbx.mono HB.out.size))
  clear hbx
  have HA := Lib.hid hrx
  clear hrx
  generalize w1.alloc (.cells #[.int .i64 0, .int .i64 0, .int .i64 0] 35) = w2 at *
  obtain ⟨ab, hab⟩ : ∃ ab, ab = w1.heap.size := ⟨_, rfl⟩
  rw [← hab] at HA HNHA  ⊢
  clear hab
  have l0 := row_range HU.out
  have l1 := row_range HP.out
  go_wp2_with (first | (refine wpList_load_mid rfl 24 _ rfl ub 0 rfl _ _ l0 Tryd.underlying24 rfl infoRule ?_) | (refine wpList_load_mid rfl 26 _ rfl pb 0 rfl _ _ l1 Tryd.underlying26 rfl infoPat ?_))
  refine (K2.out w2 HB.out).mono ?_
  rintro e3 w3 ⟨rfl, hb3⟩
  clear l0 l1
  have HU := Lib.hid (HU.out.keep hb3 HU.out.lt)
  have HP := Lib.hid (HP.out.keep hb3 HP.out.lt)
  have HA := Lib.hid (HA.out.keep hb3 HA.out.lt)
  have HB := Lib.hid (HB.out.trans (hb3.mono HB.out.size))
  clear hb3
  have HNHX : Hid (ub ≠ w3.heap.size ∧ pb ≠ w3.heap.size ∧ ab ≠ w3.heap.size ∧ w.heap.size ≤ w3.heap.size) := Lib.hid ⟨Nat.ne_of_lt HU.out.lt, Nat.ne_of_lt HP.out.lt, Nat.ne_of_lt HA.out.lt, HB.out.size⟩
  go_upto_region 6 with fail
  have hrx : Row (w3.alloc (.cells #[.int .i64 0, .int .i64 0, .int .i64 0] 35)) w3.heap.size 35 (z3) := row_alloc w3 _ _
  have hbx : Below w3.heap.size w3 (w3.alloc (.cells #[.int .i64 0, .int .i64 0, .int .i64 0] 35)) := (Below.refl _ _).alloc (Nat.le_refl _) _
  have HU := Lib.hid (HU.out.keep hbx HU.out.lt)
  have HP := Lib.hid (HP.out.keep hbx HP.out.lt)
  have HA := Lib.hid (HA.out.keep hbx HA.out.lt)
  have HB := Lib.hid (HB.out.trans (hbx.mono HB.out.size))
  clear hbx
  have HX := Lib.hid hrx
  clear hrx
  generalize w3.alloc (.cells #[.int .i64 0, .int .i64 0, .int .i64 0] 35) = w4 at *
  obtain ⟨xb, hxb⟩ : ∃ xb, xb = w3.heap.size := ⟨_, rfl⟩
  rw [← hxb] at HX HNHX  ⊢
  clear hxb
  go_wp2_with fail
  refine (K3.out w4 HB.out).mono ?_
  rintro e5 w5 ⟨rfl, hb5⟩
  have HU := Lib.hid (HU.out.keep hb5 HU.out.lt)
  have HP := Lib.hid (HP.out.keep hb5 HP.out.lt)
  have HA := Lib.hid (HA.out.keep hb5 HA.out.lt)
  have HX := Lib.hid (HX.out.keep hb5 HX.out.lt)
  have HB := Lib.hid (HB.out.trans (hb5.mono HB.out.size))
  clear hb5
  have x0 := HA.out.cell 0
  have x1 := HA.out.cell 1
  have x2 := HA.out.cell 2
  have y0 := HX.out.cell 0
  have y1 := HX.out.cell 1
  have y2 := HX.out.cell 2
  unfold z3 at x0 x1 x2 y0 y1 y2
  dsimp only [List.getElem?_cons_succ, List.getElem?_cons_zero] at x0 x1 x2 y0 y1 y2
  clear HU HP
  go_wp2_with fail
  go_ret
  exact ⟨by simp, HB.out⟩
set_option maxHeartbeats 16000000 in
set_option maxRecDepth 1000000 in
theorem planeAgain_ok (K B S st ra : Int) (ta : Option Addr) (tn tc : Nat) (tz : List Int) (tu : ByteArray) (W H : Int) (a : Option Addr) (n c : Nat) (zs : List Int) (m : Int) (w : World) (hL : Tld.Laid w) (hT : Ints.Is w ta tn tz) (hu : tu.size ≤ 9223372036854775807) (hZ : Ints.Is w a n zs) (hc : n ≤ c) (hf : plf K B S st ra tn tz tu W H zs = 0) :
    Calls Tryd.prog 5 #[.agg #[.int .i64 K, .int .i64 B, .int .i64 S, .int .i64 st, .int .i64 ra, .slice ta tn tc, .string tu], .agg #[.int .i64 W, .int .i64 H, .slice a n c], .int .i64 m] w fun e w' => e = .returned (.bool true) ∧ Below w.heap.size w w' := by
  have K1 := Lib.hid (fun w2 (h : Below w.heap.size w w2) => fault3_any K B S st ra ta tn tc tz tu W H a n c zs w2 (hT.keep h) hu (hZ.keep h))
  rw [hf] at K1
  obtain ⟨x, y, z, ev, hbd, k2, k3⟩ := again_two K B S st ra ta tn tc tz tu W H a n c zs m w hT hu hZ hc hf
  have K2 := Lib.hid k2
  have K3 := Lib.hid k3
  have K4 := Lib.hid (fun w2 (h : Below w.heap.size w w2) => same_self ev w2 (hL.keep h) hbd)
  clear k2 k3
  generalize errV ev = fv at *
  clear hT hu hZ hf hbd hL hc
  go_enter Tryd.func5, Tryd.ntmps5
  go_upto_region 1 with fail
  obtain ⟨hr1, hr2, hb2⟩ := two_new w 24 26 (rulP K B S st ra ta tn tc tu) (boxP W H a n c)
  have HU : Hid (Row ((w.alloc (.cells #[.int .i64 K, .int .i64 B, .int .i64 S, .int .i64 st, .int .i64 ra, .slice ta tn tc, .string tu] 24)).alloc (.cells #[.int .i64 W, .int .i64 H, .slice a n c] 26)) w.heap.size 24 (rulP K B S st ra ta tn tc tu)) := hr1
  have HP : Hid (Row ((w.alloc (.cells #[.int .i64 K, .int .i64 B, .int .i64 S, .int .i64 st, .int .i64 ra, .slice ta tn tc, .string tu] 24)).alloc (.cells #[.int .i64 W, .int .i64 H, .slice a n c] 26)) (w.heap.size + 1) 26 (boxP W H a n c)) := hr2
  have HB : Hid (Below w.heap.size w ((w.alloc (.cells #[.int .i64 K, .int .i64 B, .int .i64 S, .int .i64 st, .int .i64 ra, .slice ta tn tc, .string tu] 24)).alloc (.cells #[.int .i64 W, .int .i64 H, .slice a n c] 26))) := hb2
  clear hr1 hr2 hb2
  generalize (w.alloc (.cells #[.int .i64 K, .int .i64 B, .int .i64 S, .int .i64 st, .int .i64 ra, .slice ta tn tc, .string tu] 24)).alloc (.cells #[.int .i64 W, .int .i64 H, .slice a n c] 26) = w0 at *
  obtain ⟨ub, hub⟩ : ∃ ub, ub = w.heap.size := ⟨_, rfl⟩
  rw [← hub] at HU HP ⊢
  obtain ⟨pb, hpb⟩ : ∃ pb, pb = ub + 1 := ⟨_, rfl⟩
  rw [← hpb] at HP ⊢
  clear hub hpb
  have l0 := row_range HU.out
  have l1 := row_range HP.out
  go_wp2_with (first | (refine wpList_load_mid rfl 24 _ rfl ub 0 rfl _ _ l0 Tryd.underlying24 rfl infoRule ?_) | (refine wpList_load_mid rfl 26 _ rfl pb 0 rfl _ _ l1 Tryd.underlying26 rfl infoPat ?_))
  refine (K1.out w0 HB.out).mono ?_
  rintro e1 w1 ⟨rfl, hb1⟩
  clear l0 l1
  have HU := Lib.hid (HU.out.keep hb1 HU.out.lt)
  have HP := Lib.hid (HP.out.keep hb1 HP.out.lt)
  have HB := Lib.hid (HB.out.trans (hb1.mono HB.out.size))
  clear hb1
  have HNHA : Hid (ub ≠ w1.heap.size ∧ pb ≠ w1.heap.size ∧ w.heap.size ≤ w1.heap.size) := Lib.hid ⟨Nat.ne_of_lt HU.out.lt, Nat.ne_of_lt HP.out.lt, HB.out.size⟩
  go_upto_region 3 with fail
  have hrx : Row (w1.alloc (.cells #[.int .i64 0, .int .i64 0, .int .i64 0] 35)) w1.heap.size 35 (z3) := row_alloc w1 _ _
  have hbx : Below w1.heap.size w1 (w1.alloc (.cells #[.int .i64 0, .int .i64 0, .int .i64 0] 35)) := (Below.refl _ _).alloc (Nat.le_refl _) _
  have HU := Lib.hid (HU.out.keep hbx HU.out.lt)
  have HP := Lib.hid (HP.out.keep hbx HP.out.lt)
  have HB := Lib.hid (HB.out.trans (hbx.mono HB.out.size))
  clear hbx
  have HA := Lib.hid hrx
  clear hrx
  generalize w1.alloc (.cells #[.int .i64 0, .int .i64 0, .int .i64 0] 35) = w2 at *
  obtain ⟨ab, hab⟩ : ∃ ab, ab = w1.heap.size := ⟨_, rfl⟩
  rw [← hab] at HA HNHA  ⊢
  clear hab
  have l0 := row_range HU.out
  have l1 := row_range HP.out
  go_wp2_with (first | (refine wpList_load_mid rfl 24 _ rfl ub 0 rfl _ _ l0 Tryd.underlying24 rfl infoRule ?_) | (refine wpList_load_mid rfl 26 _ rfl pb 0 rfl _ _ l1 Tryd.underlying26 rfl infoPat ?_))
  refine (K2.out w2 HB.out).mono ?_
  rintro e3 w3 ⟨rfl, hb3⟩
  clear l0 l1
  have HU := Lib.hid (HU.out.keep hb3 HU.out.lt)
  have HP := Lib.hid (HP.out.keep hb3 HP.out.lt)
  have HA := Lib.hid (HA.out.keep hb3 HA.out.lt)
  have HB := Lib.hid (HB.out.trans (hb3.mono HB.out.size))
  clear hb3
  have hrs := HA.out
  go_upto_region 5 with (refine Ops.wpList_store_arr rfl 35 _ _ rfl ab rfl 35 _ (agn x y z) rfl hrs rfl infoAgain (agn_one _ _ _) ?_; intro w4 hrn hon)
  clear hrs
  have HU := Lib.hid (HU.out.other hon HNHA.out.1)
  have HP := Lib.hid (HP.out.other hon HNHA.out.2.1)
  have HB := Lib.hid (HB.out.trans (hon.below HNHA.out.2.2))
  have HA := Lib.hid hrn
  clear hrn hon
  have l0 := row_range HU.out
  have l1 := row_range HP.out
  go_wp2_with (first | (refine wpList_load_mid rfl 24 _ rfl ub 0 rfl _ _ l0 Tryd.underlying24 rfl infoRule ?_) | (refine wpList_load_mid rfl 26 _ rfl pb 0 rfl _ _ l1 Tryd.underlying26 rfl infoPat ?_))
  refine (K3.out w4 HB.out).mono ?_
  rintro e5 w5 ⟨rfl, hb5⟩
  clear l0 l1
  have HU := Lib.hid (HU.out.keep hb5 HU.out.lt)
  have HP := Lib.hid (HP.out.keep hb5 HP.out.lt)
  have HA := Lib.hid (HA.out.keep hb5 HA.out.lt)
  have HB := Lib.hid (HB.out.trans (hb5.mono HB.out.size))
  clear hb5
  have HNHX : Hid (ub ≠ w5.heap.size ∧ pb ≠ w5.heap.size ∧ ab ≠ w5.heap.size ∧ w.heap.size ≤ w5.heap.size) := Lib.hid ⟨Nat.ne_of_lt HU.out.lt, Nat.ne_of_lt HP.out.lt, Nat.ne_of_lt HA.out.lt, HB.out.size⟩
  go_upto_region 6 with fail
  have hrx : Row (w5.alloc (.cells #[.int .i64 x, .int .i64 y, .int .i64 z] 35)) w5.heap.size 35 (agn x y z) := row_alloc w5 _ _
  have hbx : Below w5.heap.size w5 (w5.alloc (.cells #[.int .i64 x, .int .i64 y, .int .i64 z] 35)) := (Below.refl _ _).alloc (Nat.le_refl _) _
  have HU := Lib.hid (HU.out.keep hbx HU.out.lt)
  have HP := Lib.hid (HP.out.keep hbx HP.out.lt)
  have HA := Lib.hid (HA.out.keep hbx HA.out.lt)
  have HB := Lib.hid (HB.out.trans (hbx.mono HB.out.size))
  clear hbx
  have HX := Lib.hid hrx
  clear hrx
  generalize w5.alloc (.cells #[.int .i64 x, .int .i64 y, .int .i64 z] 35) = w6 at *
  obtain ⟨xb, hxb⟩ : ∃ xb, xb = w5.heap.size := ⟨_, rfl⟩
  rw [← hxb] at HX HNHX  ⊢
  clear hxb
  go_wp2_with fail
  refine (K4.out w6 HB.out).mono ?_
  rintro e7 w7 ⟨rfl, hb7⟩
  have HU := Lib.hid (HU.out.keep hb7 HU.out.lt)
  have HP := Lib.hid (HP.out.keep hb7 HP.out.lt)
  have HA := Lib.hid (HA.out.keep hb7 HA.out.lt)
  have HX := Lib.hid (HX.out.keep hb7 HX.out.lt)
  have HB := Lib.hid (HB.out.trans (hb7.mono HB.out.size))
  clear hb7
  have x0 := HA.out.cell 0
  have x1 := HA.out.cell 1
  have x2 := HA.out.cell 2
  have y0 := HX.out.cell 0
  have y1 := HX.out.cell 1
  have y2 := HX.out.cell 2
  unfold agn at x0 x1 x2 y0 y1 y2
  dsimp only [List.getElem?_cons_succ, List.getElem?_cons_zero] at x0 x1 x2 y0 y1 y2
  clear HU HP
  go_wp2_with fail
  go_ret
  exact ⟨by simp, HB.out⟩
theorem planeAgain_any (K B S st ra : Int) (ta : Option Addr) (tn tc : Nat) (tz : List Int) (tu : ByteArray) (W H : Int) (a : Option Addr) (n c : Nat) (zs : List Int) (m : Int) (w : World) (hL : Tld.Laid w) (hT : Ints.Is w ta tn tz) (hu : tu.size ≤ 9223372036854775807) (hZ : Ints.Is w a n zs) (hc : n ≤ c) :
    Calls Tryd.prog 5 #[.agg #[.int .i64 K, .int .i64 B, .int .i64 S, .int .i64 st, .int .i64 ra, .slice ta tn tc, .string tu], .agg #[.int .i64 W, .int .i64 H, .slice a n c], .int .i64 m] w fun e w' => e = .returned (.bool true) ∧ Below w.heap.size w w' := by
  by_cases h : plf K B S st ra tn tz tu W H zs = 0
  · exact planeAgain_ok K B S st ra ta tn tc tz tu W H a n c zs m w hL hT hu hZ hc h
  · exact planeAgain_bad K B S st ra ta tn tc tz tu W H a n c zs m w hL hT hu hZ hc h
end Pn
end Go.Proofs.YtdckcejkliggfaaDoor
