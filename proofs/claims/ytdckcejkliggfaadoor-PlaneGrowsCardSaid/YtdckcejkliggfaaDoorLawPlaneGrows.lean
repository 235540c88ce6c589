/- THE LAW PlaneGrows: its walk, out of its callees' contracts. -/
import Derived.Test.YtdckcejkliggfaaDoorPnEq
import Derived.Test.YtdckcejkliggfaaDoorSame
import Derived.Laws.StructEq
namespace Go.Proofs.YtdckcejkliggfaaDoor
set_option linter.unusedSimpArgs false
set_option linter.unusedVariables false
open Go.RowKit
namespace Pn
open Tld Mem Bl
theorem plf_bound (K B S st ra : Int) (tn : Nat) (tz : List Int) (tu : ByteArray) (W H : Int) (zs : List Int) : -1000 ≤ plf K B S st ra tn tz tu W H zs ∧ plf K B S st ra tn tz tu W H zs ≤ 1000 := by
  have hr : rulf K B S st ra tn tz tu = 0 ∨ rulf K B S st ra tn tz tu = 1 := by
    unfold rulf
    split
    · by_cases h : Ln.Ok 2 B S st ra tz tu
      · exact .inl (Ln.lfault_ok h)
      · exact .inr (Ln.lfault_no h)
    · exact Ln.ofault_01 K B S st ra tn tu
  have hp : pfault W H zs = 0 ∨ pfault W H zs = 1 ∨ pfault W H zs = 3 := by
    unfold pfault
    split
    · exact .inr (.inl rfl)
    · split
      · exact .inr (.inr rfl)
      · split
        · exact .inr (.inl rfl)
        · exact .inl rfl
  unfold plf
  split
  · omega
  · split
    · omega
    · split <;> omega
theorem is_ne {w : World} {a : Option Addr} {n : Nat} {zs : List Int} (h : Ints.Is w a n zs) : ∀ b o, a = some ⟨b, o, none⟩ → n ≠ 0 → b ≠ w.heap.size := fun b o e hn => by
  obtain ⟨b', o', e', hl, _⟩ := h.cells 0 (by omega)
  rw [e] at e'; cases e'
  exact Nat.ne_of_lt hl
theorem alike_eq (W1 H1 : Int) (a1 : Option Addr) (n1 c1 : Nat) (a2 : Option Addr) (n2 c2 : Nat) (zs : List Int) (w : World) (h1 : Ints.Is w a1 n1 zs) (h2 : Ints.Is w a2 n2 zs) :
    Calls Tryd.prog 9 #[.agg #[.int .i64 W1, .int .i64 H1, .slice a1 n1 c1], .agg #[.int .i64 W1, .int .i64 H1, .slice a2 n2 c2]] w fun e w' => e = .returned (.bool true) ∧ Below w.heap.size w w' :=
  (alike_any W1 H1 a1 n1 c1 zs W1 H1 a2 n2 c2 zs w h1 h2).mono fun e w' h => ⟨by rw [h.1, decide_eq_true ⟨rfl, rfl, rfl⟩], h.2⟩
set_option maxHeartbeats 16000000 in
set_option maxRecDepth 1000000 in
theorem planeGrows_bad (K B S st ra : Int) (ta : Option Addr) (tn tc : Nat) (tz : List Int) (tu : ByteArray) (W H : Int) (a : Option Addr) (n c : Nat) (zs : List Int) (m : Int) (w : World) (hL : Tld.Laid w) (hT : Ints.Is w ta tn tz) (hu : tu.size ≤ 9223372036854775807) (hZ : Ints.Is w a n zs) (hc : n ≤ c) (hf : plf K B S st ra tn tz tu W H zs ≠ 0) :
    Calls Tryd.prog 4 #[.agg #[.int .i64 K, .int .i64 B, .int .i64 S, .int .i64 st, .int .i64 ra, .slice ta tn tc, .string tu], .agg #[.int .i64 W, .int .i64 H, .slice a n c], .int .i64 m] w fun e w' => e = .returned (.bool true) ∧ Below w.heap.size w w' := by
  have hbd := plf_bound K B S st ra tn tz tu W H zs
  have ha : gfl K B S st ra tn tz tu W H zs m = plf K B S st ra tn tz tu W H zs := by unfold gfl; rw [if_pos hf]
  have K1 := Lib.hid (fun w2 (h : Below w.heap.size w w2) => fault3_any K B S st ra ta tn tc tz tu W H a n c zs w2 (hT.keep h) hu (hZ.keep h))
  have K2 := Lib.hid (fun w2 (h : Below w.heap.size w w2) => Torus_bad K B S st ra ta tn tc tz tu W H a n c zs w2 (hT.keep h) hu (hZ.keep h) hf)
  have K3 := Lib.hid (fun w2 (h : Below w.heap.size w w2) => same_self (plf K B S st ra tn tz tu W H zs) w2 (hL.keep h) hbd)
  have K4 := Lib.hid (fun w2 => alike_eq 0 0 none 0 0 none 0 0 [] w2 (is_nil w2) (is_nil w2))
  have K5 := Lib.hid (fun w2 (h : Below w.heap.size w w2) => grow_bad K B S st ra ta tn tc tz tu W H a n c zs m w2 (hT.keep h) hu (hZ.keep h) (by rw [ha]; exact hf))
  rw [ha] at K5
  generalize plf K B S st ra tn tz tu W H zs = ev at *
  have e0 : (ev == 0) = false := by rw [beq_eq_false_iff_ne]; exact hf
  generalize errV ev = fv at *
  clear hT hu hZ hf ha hbd hL hc
  go_enter Tryd.func4, Tryd.ntmps4
  go_upto_region 1 with fail
  obtain ⟨hr1, hr2, hb2⟩ := two_new w 24 26 (rulP K B S st ra ta tn tc tu) (boxP W H a n c)
  have HU : Hid (Row ((w.alloc (.cells #[.int .i64 K, .int .i64 B, .int .i64 S, .int .i64 st, .int .i64 ra, .slice ta tn tc, .string tu] 24)).alloc (.cells #[.int .i64 W, .int .i64 H, .slice a n c] 26)) w.heap.size 24 (rulP K B S st ra ta tn tc tu)) := hr1
  have HP : Hid (Row ((w.alloc (.cells #[.int .i64 K, .int .i64 B, .int .i64 S, .int .i64 st, .int .i64 ra, .slice ta tn tc, .string tu] 24)).alloc (.cells #[.int .i64 W, .int .i64 H, .slice a n c] 26)) (w.heap.size + 1) 26 (boxP W H a n c)) := hr2
  have HB : Hid (Below w.heap.size w ((w.alloc (.cells #[.int .i64 K, .int .i64 B, .int .i64 S, .int .i64 st, .int .i64 ra, .slice ta tn tc, .string tu] 24)).alloc (.cells #[.int .i64 W, .int .i64 H, .slice a n c] 26))) := hb2
  clear hr1 hr2 hb2
  generalize (w.alloc (.cells #[.int .i64 K, .int .i64 B, .int .i64 S, .int .i64 st, .int .i64 ra, .slice ta tn tc, .string tu] 24)).alloc (.cells #[.int .i64 W, .int .i64 H, .slice a n c] 26) = w0 at *
  obtain ⟨ub, hub⟩ : ∃ ub, ub = w.heap.size := ⟨_, rfl⟩
  rw [← hub] at HU HP ⊢
  obtain ⟨pb, hpb⟩ : ∃ pb, pb = ub + 1 := ⟨_, rfl⟩
  rw [← hpb] at HP ⊢
  clear hub hpb
  have l0 := row_range HU.out
  have l1 := row_range HP.out
  go_wp2_with (first | (refine wpList_load_mid rfl 24 _ rfl ub 0 rfl _ _ l0 Tryd.underlying24 rfl infoRule ?_) | (refine wpList_load_mid rfl 26 _ rfl pb 0 rfl _ _ l1 Tryd.underlying26 rfl infoPat ?_))
  refine (K1.out w0 HB.out).mono ?_
  rintro e1 w1 ⟨rfl, hb1⟩
  clear l0 l1
  have HU := Lib.hid (HU.out.keep hb1 HU.out.lt)
  have HP := Lib.hid (HP.out.keep hb1 HP.out.lt)
  have HB := Lib.hid (HB.out.trans (hb1.mono HB.out.size))
  clear hb1
  have l0 := row_range HU.out
  have l1 := row_range HP.out
  go_wp2_with (first | (refine wpList_load_mid rfl 24 _ rfl ub 0 rfl _ _ l0 Tryd.underlying24 rfl infoRule ?_) | (refine wpList_load_mid rfl 26 _ rfl pb 0 rfl _ _ l1 Tryd.underlying26 rfl infoPat ?_))
  refine (K2.out w1 HB.out).mono ?_
  rintro e2 w2 ⟨rfl, hb2⟩
  clear l0 l1
  have HU := Lib.hid (HU.out.keep hb2 HU.out.lt)
  have HP := Lib.hid (HP.out.keep hb2 HP.out.lt)
  have HB := Lib.hid (HB.out.trans (hb2.mono HB.out.size))
  clear hb2
  have HNHA : Hid (ub ≠ w2.heap.size ∧ pb ≠ w2.heap.size ∧ w.heap.size ≤ w2.heap.size) := Lib.hid ⟨Nat.ne_of_lt HU.out.lt, Nat.ne_of_lt HP.out.lt, HB.out.size⟩
  go_upto_region 3 with fail
  have hrx : Row (w2.alloc (.cells #[.int .i64 0, .int .i64 0, .slice none 0 0] 26)) w2.heap.size 26 (noPat) := row_alloc w2 _ _
  have hbx : Below w2.heap.size w2 (w2.alloc (.cells #[.int .i64 0, .int .i64 0, .slice none 0 0] 26)) := (Below.refl _ _).alloc (Nat.le_refl _) _
  have HU := Lib.hid (HU.out.keep hbx HU.out.lt)
  have HP := Lib.hid (HP.out.keep hbx HP.out.lt)
  have HB := Lib.hid (HB.out.trans (hbx.mono HB.out.size))
  clear hbx
  have HA := Lib.hid hrx
  clear hrx
  generalize w2.alloc (.cells #[.int .i64 0, .int .i64 0, .slice none 0 0] 26) = w3 at *
  obtain ⟨ab, hab⟩ : ∃ ab, ab = w2.heap.size := ⟨_, rfl⟩
  rw [← hab] at HA HNHA  ⊢
  clear hab
  go_wp2_with fail
  refine (K3.out w3 HB.out).mono ?_
  rintro e4 w4 ⟨rfl, hb4⟩
  have HU := Lib.hid (HU.out.keep hb4 HU.out.lt)
  have HP := Lib.hid (HP.out.keep hb4 HP.out.lt)
  have HA := Lib.hid (HA.out.keep hb4 HA.out.lt)
  have HB := Lib.hid (HB.out.trans (hb4.mono HB.out.size))
  clear hb4
  have HNHBB : Hid (ub ≠ w4.heap.size ∧ pb ≠ w4.heap.size ∧ ab ≠ w4.heap.size ∧ w.heap.size ≤ w4.heap.size) := Lib.hid ⟨Nat.ne_of_lt HU.out.lt, Nat.ne_of_lt HP.out.lt, Nat.ne_of_lt HA.out.lt, HB.out.size⟩
  go_upto_region 5 with fail
  have hrx : Row (w4.alloc (.cells #[.int .i64 0, .int .i64 0, .slice none 0 0] 26)) w4.heap.size 26 (noPat) := row_alloc w4 _ _
  have hbx : Below w4.heap.size w4 (w4.alloc (.cells #[.int .i64 0, .int .i64 0, .slice none 0 0] 26)) := (Below.refl _ _).alloc (Nat.le_refl _) _
  have HU := Lib.hid (HU.out.keep hbx HU.out.lt)
  have HP := Lib.hid (HP.out.keep hbx HP.out.lt)
  have HA := Lib.hid (HA.out.keep hbx HA.out.lt)
  have HB := Lib.hid (HB.out.trans (hbx.mono HB.out.size))
  clear hbx
  have HBB := Lib.hid hrx
  clear hrx
  generalize w4.alloc (.cells #[.int .i64 0, .int .i64 0, .slice none 0 0] 26) = w5 at *
  obtain ⟨bb, hbb⟩ : ∃ bb, bb = w4.heap.size := ⟨_, rfl⟩
  rw [← hbb] at HBB HNHBB  ⊢
  clear hbb
  have l0 := row_range HA.out
  have l1 := row_range HBB.out
  go_wp2_with (first | (refine wpList_load_mid rfl 26 _ rfl ab 0 rfl _ _ l0 Tryd.underlying26 rfl infoPat ?_) | (refine wpList_load_mid rfl 26 _ rfl bb 0 rfl _ _ l1 Tryd.underlying26 rfl infoPat ?_))
  refine (K4.out w5).mono ?_
  rintro e6 w6 ⟨rfl, hb6⟩
  clear l0 l1
  have HU := Lib.hid (HU.out.keep hb6 HU.out.lt)
  have HP := Lib.hid (HP.out.keep hb6 HP.out.lt)
  have HA := Lib.hid (HA.out.keep hb6 HA.out.lt)
  have HBB := Lib.hid (HBB.out.keep hb6 HBB.out.lt)
  have HB := Lib.hid (HB.out.trans (hb6.mono HB.out.size))
  clear hb6
  clear HA HBB
  have HNHG : Hid (ub ≠ w6.heap.size ∧ pb ≠ w6.heap.size ∧ w.heap.size ≤ w6.heap.size) := Lib.hid ⟨Nat.ne_of_lt HU.out.lt, Nat.ne_of_lt HP.out.lt, HB.out.size⟩
  go_upto_region 11 with fail
  have hrx : Row (w6.alloc (.cells #[.int .i64 0, .int .i64 0, .slice none 0 0, .int .i64 0, .int .i64 0] 43)) w6.heap.size 43 (noGrown) := row_alloc w6 _ _
  have hbx : Below w6.heap.size w6 (w6.alloc (.cells #[.int .i64 0, .int .i64 0, .slice none 0 0, .int .i64 0, .int .i64 0] 43)) := (Below.refl _ _).alloc (Nat.le_refl _) _
  have HU := Lib.hid (HU.out.keep hbx HU.out.lt)
  have HP := Lib.hid (HP.out.keep hbx HP.out.lt)
  have HB := Lib.hid (HB.out.trans (hbx.mono HB.out.size))
  clear hbx
  have HG := Lib.hid hrx
  clear hrx
  generalize w6.alloc (.cells #[.int .i64 0, .int .i64 0, .slice none 0 0, .int .i64 0, .int .i64 0] 43) = w7 at *
  obtain ⟨gb, hgb⟩ : ∃ gb, gb = w6.heap.size := ⟨_, rfl⟩
  rw [← hgb] at HG HNHG  ⊢
  clear hgb
  have l0 := row_range HU.out
  have l1 := row_range HP.out
  go_wp2_with (first | (refine wpList_load_mid rfl 24 _ rfl ub 0 rfl _ _ l0 Tryd.underlying24 rfl infoRule ?_) | (refine wpList_load_mid rfl 26 _ rfl pb 0 rfl _ _ l1 Tryd.underlying26 rfl infoPat ?_))
  refine (K5.out w7 HB.out).mono ?_
  rintro e8 w8 ⟨rfl, hb8⟩
  clear l0 l1
  have HU := Lib.hid (HU.out.keep hb8 HU.out.lt)
  have HP := Lib.hid (HP.out.keep hb8 HP.out.lt)
  have HG := Lib.hid (HG.out.keep hb8 HG.out.lt)
  have HB := Lib.hid (HB.out.trans (hb8.mono HB.out.size))
  clear hb8
  have HNHC : Hid (ub ≠ w8.heap.size ∧ pb ≠ w8.heap.size ∧ gb ≠ w8.heap.size ∧ w.heap.size ≤ w8.heap.size) := Lib.hid ⟨Nat.ne_of_lt HU.out.lt, Nat.ne_of_lt HP.out.lt, Nat.ne_of_lt HG.out.lt, HB.out.size⟩
  go_upto_region 14 with fail
  have hrx : Row (w8.alloc (.cells #[.int .i64 0, .int .i64 0, .slice none 0 0] 26)) w8.heap.size 26 (noPat) := row_alloc w8 _ _
  have hbx : Below w8.heap.size w8 (w8.alloc (.cells #[.int .i64 0, .int .i64 0, .slice none 0 0] 26)) := (Below.refl _ _).alloc (Nat.le_refl _) _
  have HU := Lib.hid (HU.out.keep hbx HU.out.lt)
  have HP := Lib.hid (HP.out.keep hbx HP.out.lt)
  have HG := Lib.hid (HG.out.keep hbx HG.out.lt)
  have HB := Lib.hid (HB.out.trans (hbx.mono HB.out.size))
  clear hbx
  have HC := Lib.hid hrx
  clear hrx
  generalize w8.alloc (.cells #[.int .i64 0, .int .i64 0, .slice none 0 0] 26) = w9 at *
  obtain ⟨cb, hcb⟩ : ∃ cb, cb = w8.heap.size := ⟨_, rfl⟩
  rw [← hcb] at HC HNHC  ⊢
  clear hcb
  go_wp2_with fail
  refine (K3.out w9 HB.out).mono ?_
  rintro e10 w10 ⟨rfl, hb10⟩
  have HU := Lib.hid (HU.out.keep hb10 HU.out.lt)
  have HP := Lib.hid (HP.out.keep hb10 HP.out.lt)
  have HG := Lib.hid (HG.out.keep hb10 HG.out.lt)
  have HC := Lib.hid (HC.out.keep hb10 HC.out.lt)
  have HB := Lib.hid (HB.out.trans (hb10.mono HB.out.size))
  clear hb10
  have l0 := row_range HC.out
  have l1 : w10.rangeAt gb 0 [.int .i64 0, .int .i64 0, .slice none 0 0] := row_pre HG.out
  go_wp2_with (first | (refine wpList_load_mid rfl 26 _ rfl cb 0 rfl _ _ l0 Tryd.underlying26 rfl infoPat ?_) | (refine wpList_load_mid rfl 26 _ rfl gb 0 rfl _ _ l1 Tryd.underlying26 rfl infoPat ?_))
  refine (K4.out w10).mono ?_
  rintro e11 w11 ⟨rfl, hb11⟩
  clear l0 l1
  have HU := Lib.hid (HU.out.keep hb11 HU.out.lt)
  have HP := Lib.hid (HP.out.keep hb11 HP.out.lt)
  have HG := Lib.hid (HG.out.keep hb11 HG.out.lt)
  have HC := Lib.hid (HC.out.keep hb11 HC.out.lt)
  have HB := Lib.hid (HB.out.trans (hb11.mono HB.out.size))
  clear hb11
  have q3 := HG.out.cell 3
  have q4 := HG.out.cell 4
  unfold noGrown boxN at q3 q4
  dsimp only [List.getElem?_cons_succ, List.getElem?_cons_zero] at q3 q4
  clear HU HP
  go_wp2_with fail
  go_ret
  exact ⟨by simp, HB.out⟩
set_option maxHeartbeats 16000000 in
set_option maxRecDepth 1000000 in
theorem planeGrows_ok (K B S st ra : Int) (ta : Option Addr) (tn tc : Nat) (tz : List Int) (tu : ByteArray) (W H : Int) (a : Option Addr) (n c : Nat) (zs : List Int) (m : Int) (w : World) (hL : Tld.Laid w) (hT : Ints.Is w ta tn tz) (hu : tu.size ≤ 9223372036854775807) (hZ : Ints.Is w a n zs) (hc : n ≤ c) (hf : plf K B S st ra tn tz tu W H zs = 0) :
    Calls Tryd.prog 4 #[.agg #[.int .i64 K, .int .i64 B, .int .i64 S, .int .i64 st, .int .i64 ra, .slice ta tn tc, .string tu], .agg #[.int .i64 W, .int .i64 H, .slice a n c], .int .i64 m] w fun e w' => e = .returned (.bool true) ∧ Below w.heap.size w w' := by
  have K1 := Lib.hid (fun w2 (h : Below w.heap.size w w2) => fault3_any K B S st ra ta tn tc tz tu W H a n c zs w2 (hT.keep h) hu (hZ.keep h))
  rw [hf] at K1
  obtain ⟨W1, H1, z1, k2, k3⟩ := torus_two K B S st ra ta tn tc tz tu W H a n c zs w hT hu hZ hc hf
  obtain ⟨⟨Wg, Hg, X, Y, ev, zg⟩, hbd, k5, k6⟩ := grow_two K B S st ra ta tn tc tz tu W H a n c zs m w hT hu hZ hc hf
  dsimp only at hbd k5 k6
  unfold grn at k5
  have K2 := Lib.hid k2
  have K3 := Lib.hid k3
  have K4 := Lib.hid (fun (a1 a2 : Option Addr) (n1 c1 n2 c2 : Nat) w2 h1 h2 => alike_eq W1 H1 a1 n1 c1 a2 n2 c2 z1 w2 h1 h2)
  have K5 := Lib.hid k5
  have K6 := Lib.hid k6
  have K7 := Lib.hid (fun (a1 a2 : Option Addr) (n1 c1 n2 c2 : Nat) w2 h1 h2 => alike_eq Wg Hg a1 n1 c1 a2 n2 c2 zg w2 h1 h2)
  have K8 := Lib.hid (fun w2 (h : Below w.heap.size w w2) => same_self 0 w2 (hL.keep h) (by decide))
  have K9 := Lib.hid (fun w2 (h : Below w.heap.size w w2) => same_self ev w2 (hL.keep h) hbd)
  rw [errV_zero rfl] at K8
  clear k2 k3 k5 k6
  generalize errV ev = fv at *
  clear hT hu hZ hf hbd hL hc
  go_enter Tryd.func4, Tryd.ntmps4
  go_upto_region 1 with fail
  obtain ⟨hr1, hr2, hb2⟩ := two_new w 24 26 (rulP K B S st ra ta tn tc tu) (boxP W H a n c)
  have HU : Hid (Row ((w.alloc (.cells #[.int .i64 K, .int .i64 B, .int .i64 S, .int .i64 st, .int .i64 ra, .slice ta tn tc, .string tu] 24)).alloc (.cells #[.int .i64 W, .int .i64 H, .slice a n c] 26)) w.heap.size 24 (rulP K B S st ra ta tn tc tu)) := hr1
  have HP : Hid (Row ((w.alloc (.cells #[.int .i64 K, .int .i64 B, .int .i64 S, .int .i64 st, .int .i64 ra, .slice ta tn tc, .string tu] 24)).alloc (.cells #[.int .i64 W, .int .i64 H, .slice a n c] 26)) (w.heap.size + 1) 26 (boxP W H a n c)) := hr2
  have HB : Hid (Below w.heap.size w ((w.alloc (.cells #[.int .i64 K, .int .i64 B, .int .i64 S, .int .i64 st, .int .i64 ra, .slice ta tn tc, .string tu] 24)).alloc (.cells #[.int .i64 W, .int .i64 H, .slice a n c] 26))) := hb2
  clear hr1 hr2 hb2
  generalize (w.alloc (.cells #[.int .i64 K, .int .i64 B, .int .i64 S, .int .i64 st, .int .i64 ra, .slice ta tn tc, .string tu] 24)).alloc (.cells #[.int .i64 W, .int .i64 H, .slice a n c] 26) = w0 at *
  obtain ⟨ub, hub⟩ : ∃ ub, ub = w.heap.size := ⟨_, rfl⟩
  rw [← hub] at HU HP ⊢
  obtain ⟨pb, hpb⟩ : ∃ pb, pb = ub + 1 := ⟨_, rfl⟩
  rw [← hpb] at HP ⊢
  clear hub hpb
  have l0 := row_range HU.out
  have l1 := row_range HP.out
  go_wp2_with (first | (refine wpList_load_mid rfl 24 _ rfl ub 0 rfl _ _ l0 Tryd.underlying24 rfl infoRule ?_) | (refine wpList_load_mid rfl 26 _ rfl pb 0 rfl _ _ l1 Tryd.underlying26 rfl infoPat ?_))
  refine (K1.out w0 HB.out).mono ?_
  rintro e1 w1 ⟨rfl, hb1⟩
  clear l0 l1
  have HU := Lib.hid (HU.out.keep hb1 HU.out.lt)
  have HP := Lib.hid (HP.out.keep hb1 HP.out.lt)
  have HB := Lib.hid (HB.out.trans (hb1.mono HB.out.size))
  clear hb1
  have l0 := row_range HU.out
  have l1 := row_range HP.out
  go_wp2_with (first | (refine wpList_load_mid rfl 24 _ rfl ub 0 rfl _ _ l0 Tryd.underlying24 rfl infoRule ?_) | (refine wpList_load_mid rfl 26 _ rfl pb 0 rfl _ _ l1 Tryd.underlying26 rfl infoPat ?_))
  refine (K3.out w1 HB.out).mono ?_
  rintro e2 w2 ⟨⟨a1, n1, c1, rfl, hi1⟩, hb2⟩
  clear l0 l1
  have HI1 := Lib.hid hi1
  clear hi1
  have HU := Lib.hid (HU.out.keep hb2 HU.out.lt)
  have HP := Lib.hid (HP.out.keep hb2 HP.out.lt)
  have HB := Lib.hid (HB.out.trans (hb2.mono HB.out.size))
  clear hb2
  have HNHA : Hid (ub ≠ w2.heap.size ∧ pb ≠ w2.heap.size ∧ w.heap.size ≤ w2.heap.size) := Lib.hid ⟨Nat.ne_of_lt HU.out.lt, Nat.ne_of_lt HP.out.lt, HB.out.size⟩
  have HNHAHI1 := Lib.hid (is_ne HI1.out)
  go_upto_region 3 with fail
  have hrx : Row (w2.alloc (.cells #[.int .i64 W1, .int .i64 H1, .slice a1 n1 c1] 26)) w2.heap.size 26 (boxP W1 H1 a1 n1 c1) := row_alloc w2 _ _
  have hbx : Below w2.heap.size w2 (w2.alloc (.cells #[.int .i64 W1, .int .i64 H1, .slice a1 n1 c1] 26)) := (Below.refl _ _).alloc (Nat.le_refl _) _
  have HU := Lib.hid (HU.out.keep hbx HU.out.lt)
  have HP := Lib.hid (HP.out.keep hbx HP.out.lt)
  have HI1 := Lib.hid (HI1.out.keep hbx)
  have HB := Lib.hid (HB.out.trans (hbx.mono HB.out.size))
  clear hbx
  have HA := Lib.hid hrx
  clear hrx
  generalize w2.alloc (.cells #[.int .i64 W1, .int .i64 H1, .slice a1 n1 c1] 26) = w3 at *
  obtain ⟨ab, hab⟩ : ∃ ab, ab = w2.heap.size := ⟨_, rfl⟩
  rw [← hab] at HA HNHA HNHAHI1 ⊢
  clear hab
  go_wp2_with fail
  refine (K8.out w3 HB.out).mono ?_
  rintro e4 w4 ⟨rfl, hb4⟩
  have HU := Lib.hid (HU.out.keep hb4 HU.out.lt)
  have HP := Lib.hid (HP.out.keep hb4 HP.out.lt)
  have HA := Lib.hid (HA.out.keep hb4 HA.out.lt)
  have HI1 := Lib.hid (HI1.out.keep hb4)
  have HB := Lib.hid (HB.out.trans (hb4.mono HB.out.size))
  clear hb4
  have HNHBB : Hid (ub ≠ w4.heap.size ∧ pb ≠ w4.heap.size ∧ ab ≠ w4.heap.size ∧ w.heap.size ≤ w4.heap.size) := Lib.hid ⟨Nat.ne_of_lt HU.out.lt, Nat.ne_of_lt HP.out.lt, Nat.ne_of_lt HA.out.lt, HB.out.size⟩
  have HNHBBHI1 := Lib.hid (is_ne HI1.out)
  go_upto_region 5 with fail
  have hrx : Row (w4.alloc (.cells #[.int .i64 0, .int .i64 0, .slice none 0 0] 26)) w4.heap.size 26 (noPat) := row_alloc w4 _ _
  have hbx : Below w4.heap.size w4 (w4.alloc (.cells #[.int .i64 0, .int .i64 0, .slice none 0 0] 26)) := (Below.refl _ _).alloc (Nat.le_refl _) _
  have HU := Lib.hid (HU.out.keep hbx HU.out.lt)
  have HP := Lib.hid (HP.out.keep hbx HP.out.lt)
  have HA := Lib.hid (HA.out.keep hbx HA.out.lt)
  have HI1 := Lib.hid (HI1.out.keep hbx)
  have HB := Lib.hid (HB.out.trans (hbx.mono HB.out.size))
  clear hbx
  have HBB := Lib.hid hrx
  clear hrx
  generalize w4.alloc (.cells #[.int .i64 0, .int .i64 0, .slice none 0 0] 26) = w5 at *
  obtain ⟨bb, hbb⟩ : ∃ bb, bb = w4.heap.size := ⟨_, rfl⟩
  rw [← hbb] at HBB HNHBB HNHBBHI1 ⊢
  clear hbb
  have l0 := row_range HU.out
  have l1 := row_range HP.out
  go_wp2_with (first | (refine wpList_load_mid rfl 24 _ rfl ub 0 rfl _ _ l0 Tryd.underlying24 rfl infoRule ?_) | (refine wpList_load_mid rfl 26 _ rfl pb 0 rfl _ _ l1 Tryd.underlying26 rfl infoPat ?_))
  refine (K2.out w5 HB.out).mono ?_
  rintro e6 w6 ⟨⟨a2, n2, c2, rfl, hi2, hab2⟩, hb6⟩
  clear l0 l1
  have HI2 := Lib.hid hi2
  have HAB2 : Hid (∀ b o, a2 = some ⟨b, o, none⟩ → n2 ≠ 0 → b ≠ bb) := Lib.hid (fun b o e k => by have := hab2 b o e k; have := HBB.out.lt; omega)
  clear hi2 hab2
  have HU := Lib.hid (HU.out.keep hb6 HU.out.lt)
  have HP := Lib.hid (HP.out.keep hb6 HP.out.lt)
  have HA := Lib.hid (HA.out.keep hb6 HA.out.lt)
  have HBB := Lib.hid (HBB.out.keep hb6 HBB.out.lt)
  have HI1 := Lib.hid (HI1.out.keep hb6)
  have HB := Lib.hid (HB.out.trans (hb6.mono HB.out.size))
  clear hb6
  have hrs := HBB.out
  go_upto_region 7 with (refine Ops.wpList_store_arr rfl 26 _ _ rfl bb rfl 26 _ (boxP W1 H1 a2 n2 c2) rfl hrs rfl infoPat (boxP_one _ _ _ _ _) ?_; intro w7 hrn hon)
  clear hrs
  have HU := Lib.hid (HU.out.other hon HNHBB.out.1)
  have HP := Lib.hid (HP.out.other hon HNHBB.out.2.1)
  have HA := Lib.hid (HA.out.other hon HNHBB.out.2.2.1)
  have HI1 := Lib.hid (is_other2 HI1.out hon HNHBBHI1.out)
  have HI2 := Lib.hid (is_other2 HI2.out hon HAB2.out)
  have HB := Lib.hid (HB.out.trans (hon.below HNHBB.out.2.2.2))
  have HBB := Lib.hid hrn
  clear hrn hon
  have l0 := row_range HA.out
  have l1 := row_range HBB.out
  go_wp2_with (first | (refine wpList_load_mid rfl 26 _ rfl ab 0 rfl _ _ l0 Tryd.underlying26 rfl infoPat ?_) | (refine wpList_load_mid rfl 26 _ rfl bb 0 rfl _ _ l1 Tryd.underlying26 rfl infoPat ?_))
  refine (K4.out _ _ _ _ _ _ w7 HI1.out HI2.out).mono ?_
  rintro e8 w8 ⟨rfl, hb8⟩
  clear l0 l1
  have HU := Lib.hid (HU.out.keep hb8 HU.out.lt)
  have HP := Lib.hid (HP.out.keep hb8 HP.out.lt)
  have HA := Lib.hid (HA.out.keep hb8 HA.out.lt)
  have HBB := Lib.hid (HBB.out.keep hb8 HBB.out.lt)
  have HI1 := Lib.hid (HI1.out.keep hb8)
  have HB := Lib.hid (HB.out.trans (hb8.mono HB.out.size))
  clear hb8
  clear HA HBB HI1
  clear HI2
  have HNHG : Hid (ub ≠ w8.heap.size ∧ pb ≠ w8.heap.size ∧ w.heap.size ≤ w8.heap.size) := Lib.hid ⟨Nat.ne_of_lt HU.out.lt, Nat.ne_of_lt HP.out.lt, HB.out.size⟩
  go_upto_region 11 with fail
  have hrx : Row (w8.alloc (.cells #[.int .i64 0, .int .i64 0, .slice none 0 0, .int .i64 0, .int .i64 0] 43)) w8.heap.size 43 (noGrown) := row_alloc w8 _ _
  have hbx : Below w8.heap.size w8 (w8.alloc (.cells #[.int .i64 0, .int .i64 0, .slice none 0 0, .int .i64 0, .int .i64 0] 43)) := (Below.refl _ _).alloc (Nat.le_refl _) _
  have HU := Lib.hid (HU.out.keep hbx HU.out.lt)
  have HP := Lib.hid (HP.out.keep hbx HP.out.lt)
  have HB := Lib.hid (HB.out.trans (hbx.mono HB.out.size))
  clear hbx
  have HG := Lib.hid hrx
  clear hrx
  generalize w8.alloc (.cells #[.int .i64 0, .int .i64 0, .slice none 0 0, .int .i64 0, .int .i64 0] 43) = w9 at *
  obtain ⟨gb, hgb⟩ : ∃ gb, gb = w8.heap.size := ⟨_, rfl⟩
  rw [← hgb] at HG HNHG  ⊢
  clear hgb
  have l0 := row_range HU.out
  have l1 := row_range HP.out
  go_wp2_with (first | (refine wpList_load_mid rfl 24 _ rfl ub 0 rfl _ _ l0 Tryd.underlying24 rfl infoRule ?_) | (refine wpList_load_mid rfl 26 _ rfl pb 0 rfl _ _ l1 Tryd.underlying26 rfl infoPat ?_))
  refine (K5.out w9 HB.out).mono ?_
  rintro e10 w10 ⟨⟨a3, n3, c3, rfl, hi3, hab3⟩, hb10⟩
  clear l0 l1
  have HI3 := Lib.hid hi3
  have HAB3 : Hid (∀ b o, a3 = some ⟨b, o, none⟩ → n3 ≠ 0 → b ≠ gb) := Lib.hid (fun b o e k => by have := hab3 b o e k; have := HG.out.lt; omega)
  clear hi3 hab3
  have HU := Lib.hid (HU.out.keep hb10 HU.out.lt)
  have HP := Lib.hid (HP.out.keep hb10 HP.out.lt)
  have HG := Lib.hid (HG.out.keep hb10 HG.out.lt)
  have HB := Lib.hid (HB.out.trans (hb10.mono HB.out.size))
  clear hb10
  have hrs := HG.out
  go_upto_region 13 with (refine Ops.wpList_store_arr rfl 43 _ _ rfl gb rfl 43 _ (boxN Wg Hg a3 n3 c3 X Y) rfl hrs rfl infoG (boxN_one _ _ _ _ _ _ _) ?_; intro w11 hrn hon)
  clear hrs
  have HU := Lib.hid (HU.out.other hon HNHG.out.1)
  have HP := Lib.hid (HP.out.other hon HNHG.out.2.1)
  have HI3 := Lib.hid (is_other2 HI3.out hon HAB3.out)
  have HB := Lib.hid (HB.out.trans (hon.below HNHG.out.2.2))
  have HG := Lib.hid hrn
  clear hrn hon
  have l0 := row_range HU.out
  have l1 := row_range HP.out
  go_wp2_with (first | (refine wpList_load_mid rfl 24 _ rfl ub 0 rfl _ _ l0 Tryd.underlying24 rfl infoRule ?_) | (refine wpList_load_mid rfl 26 _ rfl pb 0 rfl _ _ l1 Tryd.underlying26 rfl infoPat ?_))
  refine (K6.out w11 HB.out).mono ?_
  rintro e12 w12 ⟨⟨a4, n4, c4, rfl, hi4⟩, hb12⟩
  clear l0 l1
  have HI4 := Lib.hid hi4
  clear hi4
  have HU := Lib.hid (HU.out.keep hb12 HU.out.lt)
  have HP := Lib.hid (HP.out.keep hb12 HP.out.lt)
  have HG := Lib.hid (HG.out.keep hb12 HG.out.lt)
  have HI3 := Lib.hid (HI3.out.keep hb12)
  have HB := Lib.hid (HB.out.trans (hb12.mono HB.out.size))
  clear hb12
  have HNHC : Hid (ub ≠ w12.heap.size ∧ pb ≠ w12.heap.size ∧ gb ≠ w12.heap.size ∧ w.heap.size ≤ w12.heap.size) := Lib.hid ⟨Nat.ne_of_lt HU.out.lt, Nat.ne_of_lt HP.out.lt, Nat.ne_of_lt HG.out.lt, HB.out.size⟩
  have HNHCHI3 := Lib.hid (is_ne HI3.out)
  have HNHCHI4 := Lib.hid (is_ne HI4.out)
  go_upto_region 14 with fail
  have hrx : Row (w12.alloc (.cells #[.int .i64 Wg, .int .i64 Hg, .slice a4 n4 c4] 26)) w12.heap.size 26 (boxP Wg Hg a4 n4 c4) := row_alloc w12 _ _
  have hbx : Below w12.heap.size w12 (w12.alloc (.cells #[.int .i64 Wg, .int .i64 Hg, .slice a4 n4 c4] 26)) := (Below.refl _ _).alloc (Nat.le_refl _) _
  have HU := Lib.hid (HU.out.keep hbx HU.out.lt)
  have HP := Lib.hid (HP.out.keep hbx HP.out.lt)
  have HG := Lib.hid (HG.out.keep hbx HG.out.lt)
  have HI3 := Lib.hid (HI3.out.keep hbx)
  have HI4 := Lib.hid (HI4.out.keep hbx)
  have HB := Lib.hid (HB.out.trans (hbx.mono HB.out.size))
  clear hbx
  have HC := Lib.hid hrx
  clear hrx
  generalize w12.alloc (.cells #[.int .i64 Wg, .int .i64 Hg, .slice a4 n4 c4] 26) = w13 at *
  obtain ⟨cb, hcb⟩ : ∃ cb, cb = w12.heap.size := ⟨_, rfl⟩
  rw [← hcb] at HC HNHC HNHCHI3 HNHCHI4 ⊢
  clear hcb
  go_wp2_with fail
  refine (K9.out w13 HB.out).mono ?_
  rintro e14 w14 ⟨rfl, hb14⟩
  have HU := Lib.hid (HU.out.keep hb14 HU.out.lt)
  have HP := Lib.hid (HP.out.keep hb14 HP.out.lt)
  have HG := Lib.hid (HG.out.keep hb14 HG.out.lt)
  have HC := Lib.hid (HC.out.keep hb14 HC.out.lt)
  have HI3 := Lib.hid (HI3.out.keep hb14)
  have HI4 := Lib.hid (HI4.out.keep hb14)
  have HB := Lib.hid (HB.out.trans (hb14.mono HB.out.size))
  clear hb14
  have l0 := row_range HC.out
  have l1 : w14.rangeAt gb 0 [.int .i64 Wg, .int .i64 Hg, .slice a3 n3 c3] := row_pre HG.out
  go_wp2_with (first | (refine wpList_load_mid rfl 26 _ rfl cb 0 rfl _ _ l0 Tryd.underlying26 rfl infoPat ?_) | (refine wpList_load_mid rfl 26 _ rfl gb 0 rfl _ _ l1 Tryd.underlying26 rfl infoPat ?_))
  refine (K7.out _ _ _ _ _ _ w14 HI4.out HI3.out).mono ?_
  rintro e15 w15 ⟨rfl, hb15⟩
  clear l0 l1
  have HU := Lib.hid (HU.out.keep hb15 HU.out.lt)
  have HP := Lib.hid (HP.out.keep hb15 HP.out.lt)
  have HG := Lib.hid (HG.out.keep hb15 HG.out.lt)
  have HC := Lib.hid (HC.out.keep hb15 HC.out.lt)
  have HI3 := Lib.hid (HI3.out.keep hb15)
  have HI4 := Lib.hid (HI4.out.keep hb15)
  have HB := Lib.hid (HB.out.trans (hb15.mono HB.out.size))
  clear hb15
  have q3 := HG.out.cell 3
  have q4 := HG.out.cell 4
  unfold boxN at q3 q4
  dsimp only [List.getElem?_cons_succ, List.getElem?_cons_zero] at q3 q4
  clear HU HP
  go_wp2_with fail
  go_ret
  exact ⟨by simp, HB.out⟩
theorem planeGrows_any (K B S st ra : Int) (ta : Option Addr) (tn tc : Nat) (tz : List Int) (tu : ByteArray) (W H : Int) (a : Option Addr) (n c : Nat) (zs : List Int) (m : Int) (w : World) (hL : Tld.Laid w) (hT : Ints.Is w ta tn tz) (hu : tu.size ≤ 9223372036854775807) (hZ : Ints.Is w a n zs) (hc : n ≤ c) :
    Calls Tryd.prog 4 #[.agg #[.int .i64 K, .int .i64 B, .int .i64 S, .int .i64 st, .int .i64 ra, .slice ta tn tc, .string tu], .agg #[.int .i64 W, .int .i64 H, .slice a n c], .int .i64 m] w fun e w' => e = .returned (.bool true) ∧ Below w.heap.size w w' := by
  by_cases h : plf K B S st ra tn tz tu W H zs = 0
  · exact planeGrows_ok K B S st ra ta tn tc tz tu W H a n c zs m w hL hT hu hZ hc h
  · exact planeGrows_bad K B S st ra ta tn tc tz tu W H a n c zs m w hL hT hu hZ hc h
end Pn
end Go.Proofs.YtdckcejkliggfaaDoor
