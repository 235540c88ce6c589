/- THE LAW PlaneParent: its walk, out of its callees' contracts. -/
import Derived.Test.YthipeeagpllfeaaDoorPpEq
import Derived.Test.YthipeeagpllfeaaDoorSame
import Derived.Laws.StructEq
namespace Go.Proofs.YthipeeagpllfeaaDoor
set_option linter.unusedSimpArgs false
set_option linter.unusedVariables false
open Go.RowKit
namespace Pn
open Tld Mem Bl
theorem plf_bound (K B S st ra : Int) (tn : Nat) (tz : List Int) (tu : ByteArray) (W H : Int) (zs : List Int) : -1000 ≤ plf K B S st ra tn tz tu W H zs ∧ plf K B S st ra tn tz tu W H zs ≤ 1000 := by
  have hr : rulf K B S st ra tn tz tu = 0 ∨ rulf K B S st ra tn tz tu = 1 := by
    unfold rulf
    split
    · by_cases h : Ln.Ok 2 B S st ra tz tu
      · exact .inl (Ln.lfault_ok h)
      · exact .inr (Ln.lfault_no h)
    · exact Ln.ofault_01 K B S st ra tn tu
  have hp : pfault W H zs = 0 ∨ pfault W H zs = 1 ∨ pfault W H zs = 3 := by
    unfold pfault
    split
    · exact .inr (.inl rfl)
    · split
      · exact .inr (.inr rfl)
      · split
        · exact .inr (.inl rfl)
        · exact .inl rfl
  unfold plf
  split
  · omega
  · split
    · omega
    · split <;> omega
theorem is_other2 {w w' : World} {a : Option Addr} {n c : Nat} {zs : List Int} (h : Ints.Is w a n zs) (o : Only c w w') (hne : ∀ b off, a = some ⟨b, off, none⟩ → n ≠ 0 → b ≠ c) : Ints.Is w' a n zs :=
  ⟨h.len, fun i hi => by
    obtain ⟨b, off, e, hlt, hc⟩ := h.cells i hi
    refine ⟨b, off, e, by rw [o.size]; exact hlt, ?_⟩
    rw [← hc]
    unfold World.cell?
    rw [show (⟨b, off + i, none⟩ : Addr).block = b from rfl, o.block b (hne b off e (by omega))], h.le⟩
theorem is_ne {w : World} {a : Option Addr} {n : Nat} {zs : List Int} (h : Ints.Is w a n zs) : ∀ b o, a = some ⟨b, o, none⟩ → n ≠ 0 → b ≠ w.heap.size := fun b o e hn => by
  obtain ⟨b', o', e', hl, _⟩ := h.cells 0 (by omega)
  rw [e] at e'; cases e'
  exact Nat.ne_of_lt hl
theorem alike_eq (W1 H1 : Int) (a1 : Option Addr) (n1 c1 : Nat) (a2 : Option Addr) (n2 c2 : Nat) (zs : List Int) (w : World) (h1 : Ints.Is w a1 n1 zs) (h2 : Ints.Is w a2 n2 zs) :
    Calls Tryd.prog 9 #[.agg #[.int .i64 W1, .int .i64 H1, .slice a1 n1 c1], .agg #[.int .i64 W1, .int .i64 H1, .slice a2 n2 c2]] w fun e w' => e = .returned (.bool true) ∧ Below w.heap.size w w' :=
  (alike_any W1 H1 a1 n1 c1 zs W1 H1 a2 n2 c2 zs w h1 h2).mono fun e w' h => ⟨by rw [h.1, decide_eq_true ⟨rfl, rfl, rfl⟩], h.2⟩
set_option maxHeartbeats 16000000 in
set_option maxRecDepth 1000000 in
theorem planeParent_bad (K B S st ra : Int) (ta : Option Addr) (tn tc : Nat) (tz : List Int) (tu : ByteArray) (W H : Int) (a : Option Addr) (n c : Nat) (zs : List Int) (w : World) (hL : Tld.Laid w) (hT : Ints.Is w ta tn tz) (hu : tu.size ≤ 9223372036854775807) (hZ : Ints.Is w a n zs) (hf : plf K B S st ra tn tz tu W H zs ≠ 0) :
    Calls Tryd.prog 3 #[.agg #[.int .i64 K, .int .i64 B, .int .i64 S, .int .i64 st, .int .i64 ra, .slice ta tn tc, .string tu], .agg #[.int .i64 W, .int .i64 H, .slice a n c]] w fun e w' => e = .returned (.bool true) ∧ Below w.heap.size w w' := by
  have hbd := plf_bound K B S st ra tn tz tu W H zs
  have K1 := Lib.hid (fun w2 (h : Below w.heap.size w w2) => fault3_any K B S st ra ta tn tc tz tu W H a n c zs w2 (hT.keep h) hu (hZ.keep h))
  have K2 := Lib.hid (fun w2 (h : Below w.heap.size w w2) => parent_bad K B S st ra ta tn tc tz tu W H a n c zs w2 (hT.keep h) hu (hZ.keep h) hf)
  have K3 := Lib.hid (fun w2 (h : Below w.heap.size w w2) => same_self (plf K B S st ra tn tz tu W H zs) w2 (hL.keep h) hbd)
  have K4 := Lib.hid (fun w2 => alike_eq 0 0 none 0 0 none 0 0 [] w2 (is_nil w2) (is_nil w2))
  generalize plf K B S st ra tn tz tu W H zs = ev at *
  have e0 : (ev == 0) = false := by rw [beq_eq_false_iff_ne]; exact hf
  generalize errV ev = fv at *
  clear hT hu hZ hf hbd hL
  go_enter Tryd.func3, Tryd.ntmps3
  go_upto_region 1 with fail
  obtain ⟨hr1, hr2, hb2⟩ := two_new w 24 26 (rulP K B S st ra ta tn tc tu) (boxP W H a n c)
  have HU : Hid (Row ((w.alloc (.cells #[.int .i64 K, .int .i64 B, .int .i64 S, .int .i64 st, .int .i64 ra, .slice ta tn tc, .string tu] 24)).alloc (.cells #[.int .i64 W, .int .i64 H, .slice a n c] 26)) w.heap.size 24 (rulP K B S st ra ta tn tc tu)) := hr1
  have HP : Hid (Row ((w.alloc (.cells #[.int .i64 K, .int .i64 B, .int .i64 S, .int .i64 st, .int .i64 ra, .slice ta tn tc, .string tu] 24)).alloc (.cells #[.int .i64 W, .int .i64 H, .slice a n c] 26)) (w.heap.size + 1) 26 (boxP W H a n c)) := hr2
  have HB : Hid (Below w.heap.size w ((w.alloc (.cells #[.int .i64 K, .int .i64 B, .int .i64 S, .int .i64 st, .int .i64 ra, .slice ta tn tc, .string tu] 24)).alloc (.cells #[.int .i64 W, .int .i64 H, .slice a n c] 26))) := hb2
  clear hr1 hr2 hb2
  generalize (w.alloc (.cells #[.int .i64 K, .int .i64 B, .int .i64 S, .int .i64 st, .int .i64 ra, .slice ta tn tc, .string tu] 24)).alloc (.cells #[.int .i64 W, .int .i64 H, .slice a n c] 26) = w0 at *
  obtain ⟨ub, hub⟩ : ∃ ub, ub = w.heap.size := ⟨_, rfl⟩
  rw [← hub] at HU HP ⊢
  obtain ⟨pb, hpb⟩ : ∃ pb, pb = ub + 1 := ⟨_, rfl⟩
  rw [← hpb] at HP ⊢
  clear hub hpb
  have l0 := row_range HU.out
  have l1 := row_range HP.out
  go_wp2_with (first | (refine wpList_load_mid rfl 24 _ rfl ub 0 rfl _ _ l0 Tryd.underlying24 rfl infoRule ?_) | (refine wpList_load_mid rfl 26 _ rfl pb 0 rfl _ _ l1 Tryd.underlying26 rfl infoPat ?_))
  refine (K1.out w0 HB.out).mono ?_
  rintro e1 w1 ⟨rfl, hb1⟩
  clear l0 l1
  have HU := Lib.hid (HU.out.keep hb1 HU.out.lt)
  have HP := Lib.hid (HP.out.keep hb1 HP.out.lt)
  have HB := Lib.hid (HB.out.trans (hb1.mono HB.out.size))
  clear hb1
  have HNHQ : Hid (ub ≠ w1.heap.size ∧ pb ≠ w1.heap.size ∧ w.heap.size ≤ w1.heap.size) := Lib.hid ⟨Nat.ne_of_lt HU.out.lt, Nat.ne_of_lt HP.out.lt, HB.out.size⟩
  go_upto_region 5 with fail
  have hrx : Row (w1.alloc (.cells #[.int .i64 0, .int .i64 0, .slice none 0 0] 26)) w1.heap.size 26 (noPat) := row_alloc w1 _ _
  have hbx : Below w1.heap.size w1 (w1.alloc (.cells #[.int .i64 0, .int .i64 0, .slice none 0 0] 26)) := (Below.refl _ _).alloc (Nat.le_refl _) _
  have HU := Lib.hid (HU.out.keep hbx HU.out.lt)
  have HP := Lib.hid (HP.out.keep hbx HP.out.lt)
  have HB := Lib.hid (HB.out.trans (hbx.mono HB.out.size))
  clear hbx
  have HQ := Lib.hid hrx
  clear hrx
  generalize w1.alloc (.cells #[.int .i64 0, .int .i64 0, .slice none 0 0] 26) = w2 at *
  obtain ⟨qb, hqb⟩ : ∃ qb, qb = w1.heap.size := ⟨_, rfl⟩
  rw [← hqb] at HQ HNHQ  ⊢
  clear hqb
  have l0 := row_range HU.out
  have l1 := row_range HP.out
  go_wp2_with (first | (refine wpList_load_mid rfl 24 _ rfl ub 0 rfl _ _ l0 Tryd.underlying24 rfl infoRule ?_) | (refine wpList_load_mid rfl 26 _ rfl pb 0 rfl _ _ l1 Tryd.underlying26 rfl infoPat ?_))
  refine (K2.out w2 HB.out).mono ?_
  rintro e3 w3 ⟨rfl, hb3⟩
  clear l0 l1
  have HU := Lib.hid (HU.out.keep hb3 HU.out.lt)
  have HP := Lib.hid (HP.out.keep hb3 HP.out.lt)
  have HQ := Lib.hid (HQ.out.keep hb3 HQ.out.lt)
  have HB := Lib.hid (HB.out.trans (hb3.mono HB.out.size))
  clear hb3
  have HNHA : Hid (ub ≠ w3.heap.size ∧ pb ≠ w3.heap.size ∧ qb ≠ w3.heap.size ∧ w.heap.size ≤ w3.heap.size) := Lib.hid ⟨Nat.ne_of_lt HU.out.lt, Nat.ne_of_lt HP.out.lt, Nat.ne_of_lt HQ.out.lt, HB.out.size⟩
  go_upto_region 11 with fail
  have hrx : Row (w3.alloc (.cells #[.int .i64 0, .int .i64 0, .slice none 0 0] 26)) w3.heap.size 26 (noPat) := row_alloc w3 _ _
  have hbx : Below w3.heap.size w3 (w3.alloc (.cells #[.int .i64 0, .int .i64 0, .slice none 0 0] 26)) := (Below.refl _ _).alloc (Nat.le_refl _) _
  have HU := Lib.hid (HU.out.keep hbx HU.out.lt)
  have HP := Lib.hid (HP.out.keep hbx HP.out.lt)
  have HQ := Lib.hid (HQ.out.keep hbx HQ.out.lt)
  have HB := Lib.hid (HB.out.trans (hbx.mono HB.out.size))
  clear hbx
  have HA := Lib.hid hrx
  clear hrx
  generalize w3.alloc (.cells #[.int .i64 0, .int .i64 0, .slice none 0 0] 26) = w4 at *
  obtain ⟨ab, hab⟩ : ∃ ab, ab = w3.heap.size := ⟨_, rfl⟩
  rw [← hab] at HA HNHA  ⊢
  clear hab
  go_wp2_with fail
  refine (K3.out w4 HB.out).mono ?_
  rintro e5 w5 ⟨rfl, hb5⟩
  have HU := Lib.hid (HU.out.keep hb5 HU.out.lt)
  have HP := Lib.hid (HP.out.keep hb5 HP.out.lt)
  have HQ := Lib.hid (HQ.out.keep hb5 HQ.out.lt)
  have HA := Lib.hid (HA.out.keep hb5 HA.out.lt)
  have HB := Lib.hid (HB.out.trans (hb5.mono HB.out.size))
  clear hb5
  have l0 := row_range HA.out
  have l1 := row_range HQ.out
  go_wp2_with (first | (refine wpList_load_mid rfl 26 _ rfl ab 0 rfl _ _ l0 Tryd.underlying26 rfl infoPat ?_) | (refine wpList_load_mid rfl 26 _ rfl qb 0 rfl _ _ l1 Tryd.underlying26 rfl infoPat ?_))
  refine (K4.out w5).mono ?_
  rintro e6 w6 ⟨rfl, hb6⟩
  clear l0 l1
  have HU := Lib.hid (HU.out.keep hb6 HU.out.lt)
  have HP := Lib.hid (HP.out.keep hb6 HP.out.lt)
  have HQ := Lib.hid (HQ.out.keep hb6 HQ.out.lt)
  have HA := Lib.hid (HA.out.keep hb6 HA.out.lt)
  have HB := Lib.hid (HB.out.trans (hb6.mono HB.out.size))
  clear hb6
  clear HU HP
  go_wp2_with fail
  go_ret
  exact ⟨by simp, HB.out⟩
set_option maxHeartbeats 16000000 in
set_option maxRecDepth 1000000 in
theorem planeParent_full (K B S st ra : Int) (ta : Option Addr) (tn tc : Nat) (tz : List Int) (tu : ByteArray) (W H : Int) (a : Option Addr) (n c : Nat) (zs : List Int) (w : World) (hL : Tld.Laid w) (hT : Ints.Is w ta tn tz) (hu : tu.size ≤ 9223372036854775807) (hZ : Ints.Is w a n zs) (hf : plf K B S st ra tn tz tu W H zs = 0) (h5 : 5 < W ∨ 5 < H) :
    Calls Tryd.prog 3 #[.agg #[.int .i64 K, .int .i64 B, .int .i64 S, .int .i64 st, .int .i64 ra, .slice ta tn tc, .string tu], .agg #[.int .i64 W, .int .i64 H, .slice a n c]] w fun e w' => e = .returned (.bool true) ∧ Below w.heap.size w w' := by
  have K1 := Lib.hid (fun w2 (h : Below w.heap.size w w2) => fault3_any K B S st ra ta tn tc tz tu W H a n c zs w2 (hT.keep h) hu (hZ.keep h))
  rw [hf] at K1
  have K2 := Lib.hid (fun w2 (h : Below w.heap.size w w2) => parent_full K B S st ra ta tn tc tz tu W H a n c zs w2 (hT.keep h) hu (hZ.keep h) hf h5)
  have K3 := Lib.hid (fun w2 (h : Below w.heap.size w w2) => same_self 4 w2 (hL.keep h) (by decide))
  have K4 := Lib.hid (fun w2 => alike_eq 0 0 none 0 0 none 0 0 [] w2 (is_nil w2) (is_nil w2))
  generalize errV 4 = fv at *
  have H5 := Lib.hid h5
  clear hT hu hZ hf hL h5
  go_enter Tryd.func3, Tryd.ntmps3
  go_upto_region 1 with fail
  obtain ⟨hr1, hr2, hb2⟩ := two_new w 24 26 (rulP K B S st ra ta tn tc tu) (boxP W H a n c)
  have HU : Hid (Row ((w.alloc (.cells #[.int .i64 K, .int .i64 B, .int .i64 S, .int .i64 st, .int .i64 ra, .slice ta tn tc, .string tu] 24)).alloc (.cells #[.int .i64 W, .int .i64 H, .slice a n c] 26)) w.heap.size 24 (rulP K B S st ra ta tn tc tu)) := hr1
  have HP : Hid (Row ((w.alloc (.cells #[.int .i64 K, .int .i64 B, .int .i64 S, .int .i64 st, .int .i64 ra, .slice ta tn tc, .string tu] 24)).alloc (.cells #[.int .i64 W, .int .i64 H, .slice a n c] 26)) (w.heap.size + 1) 26 (boxP W H a n c)) := hr2
  have HB : Hid (Below w.heap.size w ((w.alloc (.cells #[.int .i64 K, .int .i64 B, .int .i64 S, .int .i64 st, .int .i64 ra, .slice ta tn tc, .string tu] 24)).alloc (.cells #[.int .i64 W, .int .i64 H, .slice a n c] 26))) := hb2
  clear hr1 hr2 hb2
  generalize (w.alloc (.cells #[.int .i64 K, .int .i64 B, .int .i64 S, .int .i64 st, .int .i64 ra, .slice ta tn tc, .string tu] 24)).alloc (.cells #[.int .i64 W, .int .i64 H, .slice a n c] 26) = w0 at *
  obtain ⟨ub, hub⟩ : ∃ ub, ub = w.heap.size := ⟨_, rfl⟩
  rw [← hub] at HU HP ⊢
  obtain ⟨pb, hpb⟩ : ∃ pb, pb = ub + 1 := ⟨_, rfl⟩
  rw [← hpb] at HP ⊢
  clear hub hpb
  have l0 := row_range HU.out
  have l1 := row_range HP.out
  go_wp2_with (first | (refine wpList_load_mid rfl 24 _ rfl ub 0 rfl _ _ l0 Tryd.underlying24 rfl infoRule ?_) | (refine wpList_load_mid rfl 26 _ rfl pb 0 rfl _ _ l1 Tryd.underlying26 rfl infoPat ?_))
  refine (K1.out w0 HB.out).mono ?_
  rintro e1 w1 ⟨rfl, hb1⟩
  clear l0 l1
  have HU := Lib.hid (HU.out.keep hb1 HU.out.lt)
  have HP := Lib.hid (HP.out.keep hb1 HP.out.lt)
  have HB := Lib.hid (HB.out.trans (hb1.mono HB.out.size))
  clear hb1
  have p0 := HP.out.cell 0
  have p1 := HP.out.cell 1
  unfold boxP at p0 p1
  dsimp only [List.getElem?_cons_succ, List.getElem?_cons_zero] at p0 p1
  by_cases hw : 5 < W
  · skip
    have HNHQ : Hid (ub ≠ w1.heap.size ∧ pb ≠ w1.heap.size ∧ w.heap.size ≤ w1.heap.size) := Lib.hid ⟨Nat.ne_of_lt HU.out.lt, Nat.ne_of_lt HP.out.lt, HB.out.size⟩
    go_upto_region 5 with fail
    have hrx : Row (w1.alloc (.cells #[.int .i64 0, .int .i64 0, .slice none 0 0] 26)) w1.heap.size 26 (noPat) := row_alloc w1 _ _
    have hbx : Below w1.heap.size w1 (w1.alloc (.cells #[.int .i64 0, .int .i64 0, .slice none 0 0] 26)) := (Below.refl _ _).alloc (Nat.le_refl _) _
    have HU := Lib.hid (HU.out.keep hbx HU.out.lt)
    have HP := Lib.hid (HP.out.keep hbx HP.out.lt)
    have HB := Lib.hid (HB.out.trans (hbx.mono HB.out.size))
    clear hbx
    have HQ := Lib.hid hrx
    clear hrx
    generalize w1.alloc (.cells #[.int .i64 0, .int .i64 0, .slice none 0 0] 26) = w2 at *
    obtain ⟨qb, hqb⟩ : ∃ qb, qb = w1.heap.size := ⟨_, rfl⟩
    rw [← hqb] at HQ HNHQ  ⊢
    clear hqb
    clear p0 p1
    have l0 := row_range HU.out
    have l1 := row_range HP.out
    go_wp2_with (first | (refine wpList_load_mid rfl 24 _ rfl ub 0 rfl _ _ l0 Tryd.underlying24 rfl infoRule ?_) | (refine wpList_load_mid rfl 26 _ rfl pb 0 rfl _ _ l1 Tryd.underlying26 rfl infoPat ?_))
    refine (K2.out w2 HB.out).mono ?_
    rintro e3 w3 ⟨rfl, hb3⟩
    clear l0 l1
    have HU := Lib.hid (HU.out.keep hb3 HU.out.lt)
    have HP := Lib.hid (HP.out.keep hb3 HP.out.lt)
    have HQ := Lib.hid (HQ.out.keep hb3 HQ.out.lt)
    have HB := Lib.hid (HB.out.trans (hb3.mono HB.out.size))
    clear hb3
    have HNHA : Hid (ub ≠ w3.heap.size ∧ pb ≠ w3.heap.size ∧ qb ≠ w3.heap.size ∧ w.heap.size ≤ w3.heap.size) := Lib.hid ⟨Nat.ne_of_lt HU.out.lt, Nat.ne_of_lt HP.out.lt, Nat.ne_of_lt HQ.out.lt, HB.out.size⟩
    go_upto_region 11 with fail
    have hrx : Row (w3.alloc (.cells #[.int .i64 0, .int .i64 0, .slice none 0 0] 26)) w3.heap.size 26 (noPat) := row_alloc w3 _ _
    have hbx : Below w3.heap.size w3 (w3.alloc (.cells #[.int .i64 0, .int .i64 0, .slice none 0 0] 26)) := (Below.refl _ _).alloc (Nat.le_refl _) _
    have HU := Lib.hid (HU.out.keep hbx HU.out.lt)
    have HP := Lib.hid (HP.out.keep hbx HP.out.lt)
    have HQ := Lib.hid (HQ.out.keep hbx HQ.out.lt)
    have HB := Lib.hid (HB.out.trans (hbx.mono HB.out.size))
    clear hbx
    have HA := Lib.hid hrx
    clear hrx
    generalize w3.alloc (.cells #[.int .i64 0, .int .i64 0, .slice none 0 0] 26) = w4 at *
    obtain ⟨ab, hab⟩ : ∃ ab, ab = w3.heap.size := ⟨_, rfl⟩
    rw [← hab] at HA HNHA  ⊢
    clear hab
    go_wp2_with fail
    refine (K3.out w4 HB.out).mono ?_
    rintro e5 w5 ⟨rfl, hb5⟩
    have HU := Lib.hid (HU.out.keep hb5 HU.out.lt)
    have HP := Lib.hid (HP.out.keep hb5 HP.out.lt)
    have HQ := Lib.hid (HQ.out.keep hb5 HQ.out.lt)
    have HA := Lib.hid (HA.out.keep hb5 HA.out.lt)
    have HB := Lib.hid (HB.out.trans (hb5.mono HB.out.size))
    clear hb5
    have l0 := row_range HA.out
    have l1 := row_range HQ.out
    go_wp2_with (first | (refine wpList_load_mid rfl 26 _ rfl ab 0 rfl _ _ l0 Tryd.underlying26 rfl infoPat ?_) | (refine wpList_load_mid rfl 26 _ rfl qb 0 rfl _ _ l1 Tryd.underlying26 rfl infoPat ?_))
    refine (K4.out w5).mono ?_
    rintro e6 w6 ⟨rfl, hb6⟩
    clear l0 l1
    have HU := Lib.hid (HU.out.keep hb6 HU.out.lt)
    have HP := Lib.hid (HP.out.keep hb6 HP.out.lt)
    have HQ := Lib.hid (HQ.out.keep hb6 HQ.out.lt)
    have HA := Lib.hid (HA.out.keep hb6 HA.out.lt)
    have HB := Lib.hid (HB.out.trans (hb6.mono HB.out.size))
    clear hb6
    clear HU HP
    go_wp2_with fail
    go_ret
    exact ⟨by simp, HB.out⟩
  · skip
    have hh : 5 < H := by have := H5.out; omega
    have HNHQ : Hid (ub ≠ w1.heap.size ∧ pb ≠ w1.heap.size ∧ w.heap.size ≤ w1.heap.size) := Lib.hid ⟨Nat.ne_of_lt HU.out.lt, Nat.ne_of_lt HP.out.lt, HB.out.size⟩
    go_upto_region 5 with fail
    have hrx : Row (w1.alloc (.cells #[.int .i64 0, .int .i64 0, .slice none 0 0] 26)) w1.heap.size 26 (noPat) := row_alloc w1 _ _
    have hbx : Below w1.heap.size w1 (w1.alloc (.cells #[.int .i64 0, .int .i64 0, .slice none 0 0] 26)) := (Below.refl _ _).alloc (Nat.le_refl _) _
    have HU := Lib.hid (HU.out.keep hbx HU.out.lt)
    have HP := Lib.hid (HP.out.keep hbx HP.out.lt)
    have HB := Lib.hid (HB.out.trans (hbx.mono HB.out.size))
    clear hbx
    have HQ := Lib.hid hrx
    clear hrx
    generalize w1.alloc (.cells #[.int .i64 0, .int .i64 0, .slice none 0 0] 26) = w2 at *
    obtain ⟨qb, hqb⟩ : ∃ qb, qb = w1.heap.size := ⟨_, rfl⟩
    rw [← hqb] at HQ HNHQ  ⊢
    clear hqb
    clear p0 p1
    have l0 := row_range HU.out
    have l1 := row_range HP.out
    go_wp2_with (first | (refine wpList_load_mid rfl 24 _ rfl ub 0 rfl _ _ l0 Tryd.underlying24 rfl infoRule ?_) | (refine wpList_load_mid rfl 26 _ rfl pb 0 rfl _ _ l1 Tryd.underlying26 rfl infoPat ?_))
    refine (K2.out w2 HB.out).mono ?_
    rintro e3 w3 ⟨rfl, hb3⟩
    clear l0 l1
    have HU := Lib.hid (HU.out.keep hb3 HU.out.lt)
    have HP := Lib.hid (HP.out.keep hb3 HP.out.lt)
    have HQ := Lib.hid (HQ.out.keep hb3 HQ.out.lt)
    have HB := Lib.hid (HB.out.trans (hb3.mono HB.out.size))
    clear hb3
    have HNHA : Hid (ub ≠ w3.heap.size ∧ pb ≠ w3.heap.size ∧ qb ≠ w3.heap.size ∧ w.heap.size ≤ w3.heap.size) := Lib.hid ⟨Nat.ne_of_lt HU.out.lt, Nat.ne_of_lt HP.out.lt, Nat.ne_of_lt HQ.out.lt, HB.out.size⟩
    go_upto_region 11 with fail
    have hrx : Row (w3.alloc (.cells #[.int .i64 0, .int .i64 0, .slice none 0 0] 26)) w3.heap.size 26 (noPat) := row_alloc w3 _ _
    have hbx : Below w3.heap.size w3 (w3.alloc (.cells #[.int .i64 0, .int .i64 0, .slice none 0 0] 26)) := (Below.refl _ _).alloc (Nat.le_refl _) _
    have HU := Lib.hid (HU.out.keep hbx HU.out.lt)
    have HP := Lib.hid (HP.out.keep hbx HP.out.lt)
    have HQ := Lib.hid (HQ.out.keep hbx HQ.out.lt)
    have HB := Lib.hid (HB.out.trans (hbx.mono HB.out.size))
    clear hbx
    have HA := Lib.hid hrx
    clear hrx
    generalize w3.alloc (.cells #[.int .i64 0, .int .i64 0, .slice none 0 0] 26) = w4 at *
    obtain ⟨ab, hab⟩ : ∃ ab, ab = w3.heap.size := ⟨_, rfl⟩
    rw [← hab] at HA HNHA  ⊢
    clear hab
    go_wp2_with fail
    refine (K3.out w4 HB.out).mono ?_
    rintro e5 w5 ⟨rfl, hb5⟩
    have HU := Lib.hid (HU.out.keep hb5 HU.out.lt)
    have HP := Lib.hid (HP.out.keep hb5 HP.out.lt)
    have HQ := Lib.hid (HQ.out.keep hb5 HQ.out.lt)
    have HA := Lib.hid (HA.out.keep hb5 HA.out.lt)
    have HB := Lib.hid (HB.out.trans (hb5.mono HB.out.size))
    clear hb5
    have l0 := row_range HA.out
    have l1 := row_range HQ.out
    go_wp2_with (first | (refine wpList_load_mid rfl 26 _ rfl ab 0 rfl _ _ l0 Tryd.underlying26 rfl infoPat ?_) | (refine wpList_load_mid rfl 26 _ rfl qb 0 rfl _ _ l1 Tryd.underlying26 rfl infoPat ?_))
    refine (K4.out w5).mono ?_
    rintro e6 w6 ⟨rfl, hb6⟩
    clear l0 l1
    have HU := Lib.hid (HU.out.keep hb6 HU.out.lt)
    have HP := Lib.hid (HP.out.keep hb6 HP.out.lt)
    have HQ := Lib.hid (HQ.out.keep hb6 HQ.out.lt)
    have HA := Lib.hid (HA.out.keep hb6 HA.out.lt)
    have HB := Lib.hid (HB.out.trans (hb6.mono HB.out.size))
    clear hb6
    clear HU HP
    go_wp2_with fail
    go_ret
    exact ⟨by simp, HB.out⟩
set_option maxHeartbeats 16000000 in
set_option maxRecDepth 1000000 in
theorem planeParent_ok (K B S st ra : Int) (ta : Option Addr) (tn tc : Nat) (tz : List Int) (tu : ByteArray) (W H : Int) (a : Option Addr) (n c : Nat) (zs : List Int) (w : World) (hL : Tld.Laid w) (hT : Ints.Is w ta tn tz) (hu : tu.size ≤ 9223372036854775807) (hZ : Ints.Is w a n zs) (hf : plf K B S st ra tn tz tu W H zs = 0) (h5 : ¬ (5 < W ∨ 5 < H)) :
    Calls Tryd.prog 3 #[.agg #[.int .i64 K, .int .i64 B, .int .i64 S, .int .i64 st, .int .i64 ra, .slice ta tn tc, .string tu], .agg #[.int .i64 W, .int .i64 H, .slice a n c]] w fun e w' => e = .returned (.bool true) ∧ Below w.heap.size w w' := by
  have K1 := Lib.hid (fun w2 (h : Below w.heap.size w w2) => fault3_any K B S st ra ta tn tc tz tu W H a n c zs w2 (hT.keep h) hu (hZ.keep h))
  rw [hf] at K1
  obtain ⟨W1, H1, ev, z1, ok, hok, k2, k3⟩ := parent_two K B S st ra ta tn tc tz tu W H a n c zs w hT hu hZ hf h5
  have K2 := Lib.hid k2
  have K3 := Lib.hid k3
  have K4 := Lib.hid (fun (a1 a2 : Option Addr) (n1 c1 n2 c2 : Nat) w2 h1 h2 => alike_eq W1 H1 a1 n1 c1 a2 n2 c2 z1 w2 h1 h2)
  have K5 := Lib.hid (fun w2 (h : Below w.heap.size w w2) => same_self ev w2 (hL.keep h) (by rcases hok with h | h <;> omega))
  have HOK := Lib.hid hok
  have hw : ¬ 5 < W := fun h => h5 (.inl h)
  have hh : ¬ 5 < H := fun h => h5 (.inr h)
  clear k2 k3
  generalize hfv : errV ev = fv at *
  clear hfv hT hu hZ hf hok hL h5
  go_enter Tryd.func3, Tryd.ntmps3
  go_upto_region 1 with fail
  obtain ⟨hr1, hr2, hb2⟩ := two_new w 24 26 (rulP K B S st ra ta tn tc tu) (boxP W H a n c)
  have HU : Hid (Row ((w.alloc (.cells #[.int .i64 K, .int .i64 B, .int .i64 S, .int .i64 st, .int .i64 ra, .slice ta tn tc, .string tu] 24)).alloc (.cells #[.int .i64 W, .int .i64 H, .slice a n c] 26)) w.heap.size 24 (rulP K B S st ra ta tn tc tu)) := hr1
  have HP : Hid (Row ((w.alloc (.cells #[.int .i64 K, .int .i64 B, .int .i64 S, .int .i64 st, .int .i64 ra, .slice ta tn tc, .string tu] 24)).alloc (.cells #[.int .i64 W, .int .i64 H, .slice a n c] 26)) (w.heap.size + 1) 26 (boxP W H a n c)) := hr2
  have HB : Hid (Below w.heap.size w ((w.alloc (.cells #[.int .i64 K, .int .i64 B, .int .i64 S, .int .i64 st, .int .i64 ra, .slice ta tn tc, .string tu] 24)).alloc (.cells #[.int .i64 W, .int .i64 H, .slice a n c] 26))) := hb2
  clear hr1 hr2 hb2
  generalize (w.alloc (.cells #[.int .i64 K, .int .i64 B, .int .i64 S, .int .i64 st, .int .i64 ra, .slice ta tn tc, .string tu] 24)).alloc (.cells #[.int .i64 W, .int .i64 H, .slice a n c] 26) = w0 at *
  obtain ⟨ub, hub⟩ : ∃ ub, ub = w.heap.size := ⟨_, rfl⟩
  rw [← hub] at HU HP ⊢
  obtain ⟨pb, hpb⟩ : ∃ pb, pb = ub + 1 := ⟨_, rfl⟩
  rw [← hpb] at HP ⊢
  clear hub hpb
  have l0 := row_range HU.out
  have l1 := row_range HP.out
  go_wp2_with (first | (refine wpList_load_mid rfl 24 _ rfl ub 0 rfl _ _ l0 Tryd.underlying24 rfl infoRule ?_) | (refine wpList_load_mid rfl 26 _ rfl pb 0 rfl _ _ l1 Tryd.underlying26 rfl infoPat ?_))
  refine (K1.out w0 HB.out).mono ?_
  rintro e1 w1 ⟨rfl, hb1⟩
  clear l0 l1
  have HU := Lib.hid (HU.out.keep hb1 HU.out.lt)
  have HP := Lib.hid (HP.out.keep hb1 HP.out.lt)
  have HB := Lib.hid (HB.out.trans (hb1.mono HB.out.size))
  clear hb1
  have p0 := HP.out.cell 0
  have p1 := HP.out.cell 1
  unfold boxP at p0 p1
  dsimp only [List.getElem?_cons_succ, List.getElem?_cons_zero] at p0 p1
  have HNHQ : Hid (ub ≠ w1.heap.size ∧ pb ≠ w1.heap.size ∧ w.heap.size ≤ w1.heap.size) := Lib.hid ⟨Nat.ne_of_lt HU.out.lt, Nat.ne_of_lt HP.out.lt, HB.out.size⟩
  go_upto_region 5 with fail
  have hrx : Row (w1.alloc (.cells #[.int .i64 0, .int .i64 0, .slice none 0 0] 26)) w1.heap.size 26 (noPat) := row_alloc w1 _ _
  have hbx : Below w1.heap.size w1 (w1.alloc (.cells #[.int .i64 0, .int .i64 0, .slice none 0 0] 26)) := (Below.refl _ _).alloc (Nat.le_refl _) _
  have HU := Lib.hid (HU.out.keep hbx HU.out.lt)
  have HP := Lib.hid (HP.out.keep hbx HP.out.lt)
  have HB := Lib.hid (HB.out.trans (hbx.mono HB.out.size))
  clear hbx
  have HQ := Lib.hid hrx
  clear hrx
  generalize w1.alloc (.cells #[.int .i64 0, .int .i64 0, .slice none 0 0] 26) = w2 at *
  obtain ⟨qb, hqb⟩ : ∃ qb, qb = w1.heap.size := ⟨_, rfl⟩
  rw [← hqb] at HQ HNHQ  ⊢
  clear hqb
  clear p0 p1 hw hh
  have l0 := row_range HU.out
  have l1 := row_range HP.out
  go_wp2_with (first | (refine wpList_load_mid rfl 24 _ rfl ub 0 rfl _ _ l0 Tryd.underlying24 rfl infoRule ?_) | (refine wpList_load_mid rfl 26 _ rfl pb 0 rfl _ _ l1 Tryd.underlying26 rfl infoPat ?_))
  refine (K2.out w2 HB.out).mono ?_
  rintro e3 w3 ⟨⟨a2, n2, c2, rfl, hi2, hab2⟩, hb3⟩
  clear l0 l1
  have HI2 := Lib.hid hi2
  have HAB2 : Hid (∀ b o, a2 = some ⟨b, o, none⟩ → n2 ≠ 0 → b ≠ qb) := Lib.hid (fun b o e k => by have := hab2 b o e k; have := HQ.out.lt; omega)
  clear hi2 hab2
  have HU := Lib.hid (HU.out.keep hb3 HU.out.lt)
  have HP := Lib.hid (HP.out.keep hb3 HP.out.lt)
  have HQ := Lib.hid (HQ.out.keep hb3 HQ.out.lt)
  have HB := Lib.hid (HB.out.trans (hb3.mono HB.out.size))
  clear hb3
  have hrs := HQ.out
  go_upto_region 8 with (refine Ops.wpList_store_arr rfl 26 _ _ rfl qb rfl 26 _ (boxP W1 H1 a2 n2 c2) rfl hrs rfl infoPat (boxP_one _ _ _ _ _) ?_; intro w4 hrn hon)
  clear hrs
  have HU := Lib.hid (HU.out.other hon HNHQ.out.1)
  have HP := Lib.hid (HP.out.other hon HNHQ.out.2.1)
  have HI2 := Lib.hid (is_other2 HI2.out hon HAB2.out)
  have HB := Lib.hid (HB.out.trans (hon.below HNHQ.out.2.2))
  have HQ := Lib.hid hrn
  clear hrn hon
  rcases HOK.out with ⟨rfl, rfl⟩ | ⟨rfl, rfl⟩
  · skip
    have l0 := row_range HU.out
    have l1 := row_range HP.out
    go_wp2_with (first | (refine wpList_load_mid rfl 24 _ rfl ub 0 rfl _ _ l0 Tryd.underlying24 rfl infoRule ?_) | (refine wpList_load_mid rfl 26 _ rfl pb 0 rfl _ _ l1 Tryd.underlying26 rfl infoPat ?_))
    refine (K3.out w4 HB.out).mono ?_
    rintro e5 w5 ⟨⟨a3, n3, c3, rfl, hi3⟩, hb5⟩
    clear l0 l1
    have HI3 := Lib.hid hi3
    clear hi3
    have HU := Lib.hid (HU.out.keep hb5 HU.out.lt)
    have HP := Lib.hid (HP.out.keep hb5 HP.out.lt)
    have HQ := Lib.hid (HQ.out.keep hb5 HQ.out.lt)
    have HI2 := Lib.hid (HI2.out.keep hb5)
    have HB := Lib.hid (HB.out.trans (hb5.mono HB.out.size))
    clear hb5
    have HNHA : Hid (ub ≠ w5.heap.size ∧ pb ≠ w5.heap.size ∧ qb ≠ w5.heap.size ∧ w.heap.size ≤ w5.heap.size) := Lib.hid ⟨Nat.ne_of_lt HU.out.lt, Nat.ne_of_lt HP.out.lt, Nat.ne_of_lt HQ.out.lt, HB.out.size⟩
    have HNHAHI2 := Lib.hid (is_ne HI2.out)
    have HNHAHI3 := Lib.hid (is_ne HI3.out)
    go_upto_region 11 with fail
    have hrx : Row (w5.alloc (.cells #[.int .i64 W1, .int .i64 H1, .slice a3 n3 c3] 26)) w5.heap.size 26 (boxP W1 H1 a3 n3 c3) := row_alloc w5 _ _
    have hbx : Below w5.heap.size w5 (w5.alloc (.cells #[.int .i64 W1, .int .i64 H1, .slice a3 n3 c3] 26)) := (Below.refl _ _).alloc (Nat.le_refl _) _
    have HU := Lib.hid (HU.out.keep hbx HU.out.lt)
    have HP := Lib.hid (HP.out.keep hbx HP.out.lt)
    have HQ := Lib.hid (HQ.out.keep hbx HQ.out.lt)
    have HI2 := Lib.hid (HI2.out.keep hbx)
    have HI3 := Lib.hid (HI3.out.keep hbx)
    have HB := Lib.hid (HB.out.trans (hbx.mono HB.out.size))
    clear hbx
    have HA := Lib.hid hrx
    clear hrx
    generalize w5.alloc (.cells #[.int .i64 W1, .int .i64 H1, .slice a3 n3 c3] 26) = w6 at *
    obtain ⟨ab, hab⟩ : ∃ ab, ab = w5.heap.size := ⟨_, rfl⟩
    rw [← hab] at HA HNHA HNHAHI2 HNHAHI3 ⊢
    clear hab
    go_wp2_with fail
    refine (K5.out w6 HB.out).mono ?_
    rintro e7 w7 ⟨rfl, hb7⟩
    have HU := Lib.hid (HU.out.keep hb7 HU.out.lt)
    have HP := Lib.hid (HP.out.keep hb7 HP.out.lt)
    have HQ := Lib.hid (HQ.out.keep hb7 HQ.out.lt)
    have HA := Lib.hid (HA.out.keep hb7 HA.out.lt)
    have HI2 := Lib.hid (HI2.out.keep hb7)
    have HI3 := Lib.hid (HI3.out.keep hb7)
    have HB := Lib.hid (HB.out.trans (hb7.mono HB.out.size))
    clear hb7
    have l0 := row_range HA.out
    have l1 := row_range HQ.out
    go_wp2_with (first | (refine wpList_load_mid rfl 26 _ rfl ab 0 rfl _ _ l0 Tryd.underlying26 rfl infoPat ?_) | (refine wpList_load_mid rfl 26 _ rfl qb 0 rfl _ _ l1 Tryd.underlying26 rfl infoPat ?_))
    refine (K4.out _ _ _ _ _ _ w7 HI3.out HI2.out).mono ?_
    rintro e8 w8 ⟨rfl, hb8⟩
    clear l0 l1
    have HU := Lib.hid (HU.out.keep hb8 HU.out.lt)
    have HP := Lib.hid (HP.out.keep hb8 HP.out.lt)
    have HQ := Lib.hid (HQ.out.keep hb8 HQ.out.lt)
    have HA := Lib.hid (HA.out.keep hb8 HA.out.lt)
    have HI2 := Lib.hid (HI2.out.keep hb8)
    have HI3 := Lib.hid (HI3.out.keep hb8)
    have HB := Lib.hid (HB.out.trans (hb8.mono HB.out.size))
    clear hb8
    clear HU HP
    go_wp2_with fail
    go_ret
    exact ⟨by simp, HB.out⟩
  · skip
    have l0 := row_range HU.out
    have l1 := row_range HP.out
    go_wp2_with (first | (refine wpList_load_mid rfl 24 _ rfl ub 0 rfl _ _ l0 Tryd.underlying24 rfl infoRule ?_) | (refine wpList_load_mid rfl 26 _ rfl pb 0 rfl _ _ l1 Tryd.underlying26 rfl infoPat ?_))
    refine (K3.out w4 HB.out).mono ?_
    rintro e5 w5 ⟨⟨a3, n3, c3, rfl, hi3⟩, hb5⟩
    clear l0 l1
    have HI3 := Lib.hid hi3
    clear hi3
    have HU := Lib.hid (HU.out.keep hb5 HU.out.lt)
    have HP := Lib.hid (HP.out.keep hb5 HP.out.lt)
    have HQ := Lib.hid (HQ.out.keep hb5 HQ.out.lt)
    have HI2 := Lib.hid (HI2.out.keep hb5)
    have HB := Lib.hid (HB.out.trans (hb5.mono HB.out.size))
    clear hb5
    have HNHA : Hid (ub ≠ w5.heap.size ∧ pb ≠ w5.heap.size ∧ qb ≠ w5.heap.size ∧ w.heap.size ≤ w5.heap.size) := Lib.hid ⟨Nat.ne_of_lt HU.out.lt, Nat.ne_of_lt HP.out.lt, Nat.ne_of_lt HQ.out.lt, HB.out.size⟩
    have HNHAHI2 := Lib.hid (is_ne HI2.out)
    have HNHAHI3 := Lib.hid (is_ne HI3.out)
    go_upto_region 11 with fail
    have hrx : Row (w5.alloc (.cells #[.int .i64 W1, .int .i64 H1, .slice a3 n3 c3] 26)) w5.heap.size 26 (boxP W1 H1 a3 n3 c3) := row_alloc w5 _ _
    have hbx : Below w5.heap.size w5 (w5.alloc (.cells #[.int .i64 W1, .int .i64 H1, .slice a3 n3 c3] 26)) := (Below.refl _ _).alloc (Nat.le_refl _) _
    have HU := Lib.hid (HU.out.keep hbx HU.out.lt)
    have HP := Lib.hid (HP.out.keep hbx HP.out.lt)
    have HQ := Lib.hid (HQ.out.keep hbx HQ.out.lt)
    have HI2 := Lib.hid (HI2.out.keep hbx)
    have HI3 := Lib.hid (HI3.out.keep hbx)
    have HB := Lib.hid (HB.out.trans (hbx.mono HB.out.size))
    clear hbx
    have HA := Lib.hid hrx
    clear hrx
    generalize w5.alloc (.cells #[.int .i64 W1, .int .i64 H1, .slice a3 n3 c3] 26) = w6 at *
    obtain ⟨ab, hab⟩ : ∃ ab, ab = w5.heap.size := ⟨_, rfl⟩
    rw [← hab] at HA HNHA HNHAHI2 HNHAHI3 ⊢
    clear hab
    go_wp2_with fail
    refine (K5.out w6 HB.out).mono ?_
    rintro e7 w7 ⟨rfl, hb7⟩
    have HU := Lib.hid (HU.out.keep hb7 HU.out.lt)
    have HP := Lib.hid (HP.out.keep hb7 HP.out.lt)
    have HQ := Lib.hid (HQ.out.keep hb7 HQ.out.lt)
    have HA := Lib.hid (HA.out.keep hb7 HA.out.lt)
    have HI2 := Lib.hid (HI2.out.keep hb7)
    have HI3 := Lib.hid (HI3.out.keep hb7)
    have HB := Lib.hid (HB.out.trans (hb7.mono HB.out.size))
    clear hb7
    have l0 := row_range HA.out
    have l1 := row_range HQ.out
    go_wp2_with (first | (refine wpList_load_mid rfl 26 _ rfl ab 0 rfl _ _ l0 Tryd.underlying26 rfl infoPat ?_) | (refine wpList_load_mid rfl 26 _ rfl qb 0 rfl _ _ l1 Tryd.underlying26 rfl infoPat ?_))
    refine (K4.out _ _ _ _ _ _ w7 HI3.out HI2.out).mono ?_
    rintro e8 w8 ⟨rfl, hb8⟩
    clear l0 l1
    have HU := Lib.hid (HU.out.keep hb8 HU.out.lt)
    have HP := Lib.hid (HP.out.keep hb8 HP.out.lt)
    have HQ := Lib.hid (HQ.out.keep hb8 HQ.out.lt)
    have HA := Lib.hid (HA.out.keep hb8 HA.out.lt)
    have HI2 := Lib.hid (HI2.out.keep hb8)
    have HI3 := Lib.hid (HI3.out.keep hb8)
    have HB := Lib.hid (HB.out.trans (hb8.mono HB.out.size))
    clear hb8
    clear HU HP
    go_wp2_with fail
    go_ret
    exact ⟨by simp, HB.out⟩
theorem planeParent_any (K B S st ra : Int) (ta : Option Addr) (tn tc : Nat) (tz : List Int) (tu : ByteArray) (W H : Int) (a : Option Addr) (n c : Nat) (zs : List Int) (w : World) (hL : Tld.Laid w) (hT : Ints.Is w ta tn tz) (hu : tu.size ≤ 9223372036854775807) (hZ : Ints.Is w a n zs) :
    Calls Tryd.prog 3 #[.agg #[.int .i64 K, .int .i64 B, .int .i64 S, .int .i64 st, .int .i64 ra, .slice ta tn tc, .string tu], .agg #[.int .i64 W, .int .i64 H, .slice a n c]] w fun e w' => e = .returned (.bool true) ∧ Below w.heap.size w w' := by
  by_cases h : plf K B S st ra tn tz tu W H zs = 0
  · by_cases h5 : 5 < W ∨ 5 < H
    · exact planeParent_full K B S st ra ta tn tc tz tu W H a n c zs w hL hT hu hZ h h5
    · exact planeParent_ok K B S st ra ta tn tc tz tu W H a n c zs w hL hT hu hZ h h5
  · exact planeParent_bad K B S st ra ta tn tc tz tu W H a n c zs w hL hT hu hZ h
end Pn
end Go.Proofs.YthipeeagpllfeaaDoor
