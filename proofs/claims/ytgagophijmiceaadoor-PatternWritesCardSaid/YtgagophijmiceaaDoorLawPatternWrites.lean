/- THE LAW PatternWrites: its walk, out of its callees' contracts. -/
import Derived.Test.YtgagophijmiceaaDoorPwRe
import Derived.Test.YtgagophijmiceaaDoorPwRd
import Derived.Test.YtgagophijmiceaaDoorPwRr
import Derived.Test.YtgagophijmiceaaDoorPwDw
import Derived.Test.YtgagophijmiceaaDoorSame
namespace Go.Proofs.YtgagophijmiceaaDoor
set_option linter.unusedSimpArgs false
set_option linter.unusedVariables false
open Go.RowKit
namespace Pw
open Tld Mem Bl Pn

theorem pfault_bound (W H : Int) (zs : List Int) : -1000 ≤ pfault W H zs ∧ pfault W H zs ≤ 1000 := by
  unfold pfault
  split
  · decide
  · split
    · decide
    · split <;> decide
theorem ba_self (s : ByteArray) : (s == s) = true := by
  cases s
  show ByteArray.beq _ _ = true
  unfold ByteArray.beq
  simp
theorem is_ne {w : World} {a : Option Addr} {n : Nat} {zs : List Int} (h : Ints.Is w a n zs) : ∀ b o, a = some ⟨b, o, none⟩ → n ≠ 0 → b ≠ w.heap.size := fun b o e hn => by
  obtain ⟨b', o', e', hl, _⟩ := h.cells 0 (by omega)
  rw [e] at e'; cases e'
  exact Nat.ne_of_lt hl
theorem is_other3 {w w' : World} {a : Option Addr} {n c : Nat} {zs : List Int} (h : Ints.Is w a n zs) (o : Only c w w') (hne : ∀ b off, a = some ⟨b, off, none⟩ → n ≠ 0 → b ≠ c) : Ints.Is w' a n zs := is_other2 h o (fun b off h0 e => hne b off e (by omega))
theorem alike_eq (W1 H1 : Int) (a1 : Option Addr) (n1 c1 : Nat) (a2 : Option Addr) (n2 c2 : Nat) (zs : List Int) (w : World) (h1 : Ints.Is w a1 n1 zs) (h2 : Ints.Is w a2 n2 zs) :
    Calls Tryd.prog 13 #[.agg #[.int .i64 W1, .int .i64 H1, .slice a1 n1 c1], .agg #[.int .i64 W1, .int .i64 H1, .slice a2 n2 c2]] w fun e w' => e = .returned (.bool true) ∧ Below w.heap.size w w' :=
  (alike_any W1 H1 a1 n1 c1 zs W1 H1 a2 n2 c2 zs w h1 h2).mono fun e w' h => ⟨by rw [h.1, decide_eq_true ⟨rfl, rfl, rfl⟩], h.2⟩
theorem alike_no (w : World) : Calls Tryd.prog 13 #[.agg #[.int .i64 0, .int .i64 0, .slice none 0 0], .agg #[.int .i64 0, .int .i64 0, .slice none 0 0]] w fun e w' => e = .returned (.bool true) ∧ Below w.heap.size w w' :=
  alike_eq 0 0 none 0 0 none 0 0 [] w ⟨rfl, fun i hi => absurd hi (Nat.not_lt_zero _), Nat.zero_le _⟩ ⟨rfl, fun i hi => absurd hi (Nat.not_lt_zero _), Nat.zero_le _⟩
set_option maxHeartbeats 16000000 in
set_option maxRecDepth 1000000 in
theorem writes_bad (W H : Int) (a : Option Addr) (n c : Nat) (zs : List Int) (k : Int) (w : World) (hL : Tld.Laid w) (hT : Tab w) (hM : Marks w) (hZ : Ints.Is w a n zs) (hc : n ≤ c) (hf : pfault W H zs ≠ 0) :
    Calls Tryd.prog 5 #[.agg #[.int .i64 W, .int .i64 H, .slice a n c], .int .i64 k] w fun e w' => e = .returned (.bool true) ∧ Below w.heap.size w w' := by
  have hbd := pfault_bound W H zs
  have ht : tfl W H zs k = pfault W H zs := by unfold tfl; rw [if_pos hf]
  have K1 := Lib.hid (fun w2 (h : Below w.heap.size w w2) => shape_any W H a n c zs w2 (hZ.keep h))
  have K2 := Lib.hid (fun w2 (h : Below w.heap.size w w2) => pcheck_any W H a n c zs w2 hZ.len (by have := hZ.le; unfold maxLen at this; omega) (hZ.keep h).cells)
  have K3 := Lib.hid (fun w2 (h : Below w.heap.size w w2) => same_self (pfault W H zs) w2 (hL.keep h) hbd)
  have K4 := Lib.hid (fun w2 (h : Below w.heap.size w w2) => Runs_bad W H a n c zs w2 (hZ.keep h) hf)
  have K5 := Lib.hid (fun w2 (h : Below w.heap.size w w2) => Draw_bad W H a n c zs w2 (hZ.keep h) hf)
  have K6 := Lib.hid (fun w2 (h : Below w.heap.size w w2) => Trim_bad W H a n c zs w2 (hZ.keep h) hf)
  have K7 := Lib.hid (fun w2 (h : Below w.heap.size w w2) => Canon_bad W H a n c zs w2 (hZ.keep h) hf)
  have K8 := Lib.hid (fun w2 (h : Below w.heap.size w w2) => Turn_bad W H a n c zs k w2 (hZ.keep h) (by rw [ht]; exact hf))
  have K9 := Lib.hid (fun w2 => alike_no w2)
  rw [ht] at K8
  generalize pfault W H zs = ev at *
  have e0 : (ev == 0) = false := by rw [beq_eq_false_iff_ne]; exact hf
  have e1 : (ev != 0) = true := by rw [bne_iff_ne]; exact hf
  generalize errV ev = fv at *
  clear hT hZ ht hbd hL hc hM
  go_enter Tryd.func5, Tryd.ntmps5
  go_upto_region 1 with fail
  have HP : Hid (Row (w.alloc (.cells #[.int .i64 W, .int .i64 H, .slice a n c] 35)) w.heap.size 35 (boxP W H a n c)) := Lib.hid (row_alloc w _ (boxP W H a n c))
  have HB : Hid (Below w.heap.size w (w.alloc (.cells #[.int .i64 W, .int .i64 H, .slice a n c] 35))) := Lib.hid ((Below.refl _ _).alloc (Nat.le_refl _) _)
  generalize w.alloc (.cells #[.int .i64 W, .int .i64 H, .slice a n c] 35) = w0 at *
  obtain ⟨pb, hpb⟩ : ∃ pb, pb = w.heap.size := ⟨_, rfl⟩
  rw [← hpb] at HP ⊢
  clear hpb
  have l0 := row_range HP.out
  go_wp2_with (first | (refine wpList_load_mid rfl 35 _ rfl pb 0 rfl _ _ l0 Tryd.underlying35 rfl infoPat ?_))
  refine (K1.out w0 HB.out).mono ?_
  rintro e1 w1 ⟨rfl, hb1⟩
  clear l0
  have HP := Lib.hid (HP.out.keep hb1 HP.out.lt)
  have HB := Lib.hid (HB.out.trans (hb1.mono HB.out.size))
  clear hb1
  have l0 := row_range HP.out
  go_wp2_with (first | (refine wpList_load_mid rfl 35 _ rfl pb 0 rfl _ _ l0 Tryd.underlying35 rfl infoPat ?_))
  refine (K2.out w1 HB.out).mono ?_
  rintro e2 w2 ⟨rfl, hb2⟩
  clear l0
  have HP := Lib.hid (HP.out.keep hb2 HP.out.lt)
  have HB := Lib.hid (HB.out.trans (hb2.mono HB.out.size))
  clear hb2
  go_wp2_with fail
  refine (K3.out w2 HB.out).mono ?_
  rintro e3 w3 ⟨rfl, hb3⟩
  have HP := Lib.hid (HP.out.keep hb3 HP.out.lt)
  have HB := Lib.hid (HB.out.trans (hb3.mono HB.out.size))
  clear hb3
  have l0 := row_range HP.out
  go_wp2_with (first | (refine wpList_load_mid rfl 35 _ rfl pb 0 rfl _ _ l0 Tryd.underlying35 rfl infoPat ?_))
  refine (K4.out w3 HB.out).mono ?_
  rintro e4 w4 ⟨rfl, hb4⟩
  clear l0
  have HP := Lib.hid (HP.out.keep hb4 HP.out.lt)
  have HB := Lib.hid (HB.out.trans (hb4.mono HB.out.size))
  clear hb4
  go_wp2_with fail
  refine (K3.out w4 HB.out).mono ?_
  rintro e5 w5 ⟨rfl, hb5⟩
  have HP := Lib.hid (HP.out.keep hb5 HP.out.lt)
  have HB := Lib.hid (HB.out.trans (hb5.mono HB.out.size))
  clear hb5
  have l0 := row_range HP.out
  go_wp2_with (first | (refine wpList_load_mid rfl 35 _ rfl pb 0 rfl _ _ l0 Tryd.underlying35 rfl infoPat ?_))
  refine (K5.out w5 HB.out).mono ?_
  rintro e6 w6 ⟨rfl, hb6⟩
  clear l0
  have HP := Lib.hid (HP.out.keep hb6 HP.out.lt)
  have HB := Lib.hid (HB.out.trans (hb6.mono HB.out.size))
  clear hb6
  go_wp2_with fail
  refine (K3.out w6 HB.out).mono ?_
  rintro e7 w7 ⟨rfl, hb7⟩
  have HP := Lib.hid (HP.out.keep hb7 HP.out.lt)
  have HB := Lib.hid (HB.out.trans (hb7.mono HB.out.size))
  clear hb7
  have l0 := row_range HP.out
  go_wp2_with (first | (refine wpList_load_mid rfl 35 _ rfl pb 0 rfl _ _ l0 Tryd.underlying35 rfl infoPat ?_))
  refine (K6.out w7 HB.out).mono ?_
  rintro e8 w8 ⟨rfl, hb8⟩
  clear l0
  have HP := Lib.hid (HP.out.keep hb8 HP.out.lt)
  have HB := Lib.hid (HB.out.trans (hb8.mono HB.out.size))
  clear hb8
  have HNHQ : Hid (pb ≠ w8.heap.size ∧ w.heap.size ≤ w8.heap.size) := Lib.hid ⟨Nat.ne_of_lt HP.out.lt, HB.out.size⟩
  go_upto_region 9 with fail
  have hrx : Row (w8.alloc (.cells #[.int .i64 0, .int .i64 0, .slice none 0 0] 35)) w8.heap.size 35 (noPat) := row_alloc w8 _ _
  have hbx : Below w8.heap.size w8 (w8.alloc (.cells #[.int .i64 0, .int .i64 0, .slice none 0 0] 35)) := (Below.refl _ _).alloc (Nat.le_refl _) _
  have HP := Lib.hid (HP.out.keep hbx HP.out.lt)
  have HB := Lib.hid (HB.out.trans (hbx.mono HB.out.size))
  clear hbx
  have HQ := Lib.hid hrx
  clear hrx
  generalize w8.alloc (.cells #[.int .i64 0, .int .i64 0, .slice none 0 0] 35) = w9 at *
  obtain ⟨qb, hqb⟩ : ∃ qb, qb = w8.heap.size := ⟨_, rfl⟩
  rw [← hqb] at HQ HNHQ  ⊢
  clear hqb
  go_wp2_with fail
  refine (K3.out w9 HB.out).mono ?_
  rintro e10 w10 ⟨rfl, hb10⟩
  have HP := Lib.hid (HP.out.keep hb10 HP.out.lt)
  have HQ := Lib.hid (HQ.out.keep hb10 HQ.out.lt)
  have HB := Lib.hid (HB.out.trans (hb10.mono HB.out.size))
  clear hb10
  have l0 := row_range HP.out
  go_wp2_with (first | (refine wpList_load_mid rfl 35 _ rfl pb 0 rfl _ _ l0 Tryd.underlying35 rfl infoPat ?_))
  refine (K7.out w10 HB.out).mono ?_
  rintro e11 w11 ⟨rfl, hb11⟩
  clear l0
  have HP := Lib.hid (HP.out.keep hb11 HP.out.lt)
  have HQ := Lib.hid (HQ.out.keep hb11 HQ.out.lt)
  have HB := Lib.hid (HB.out.trans (hb11.mono HB.out.size))
  clear hb11
  have HNHC : Hid (pb ≠ w11.heap.size ∧ qb ≠ w11.heap.size ∧ w.heap.size ≤ w11.heap.size) := Lib.hid ⟨Nat.ne_of_lt HP.out.lt, Nat.ne_of_lt HQ.out.lt, HB.out.size⟩
  go_upto_region 11 with fail
  have hrx : Row (w11.alloc (.cells #[.int .i64 0, .int .i64 0, .slice none 0 0] 35)) w11.heap.size 35 (noPat) := row_alloc w11 _ _
  have hbx : Below w11.heap.size w11 (w11.alloc (.cells #[.int .i64 0, .int .i64 0, .slice none 0 0] 35)) := (Below.refl _ _).alloc (Nat.le_refl _) _
  have HP := Lib.hid (HP.out.keep hbx HP.out.lt)
  have HQ := Lib.hid (HQ.out.keep hbx HQ.out.lt)
  have HB := Lib.hid (HB.out.trans (hbx.mono HB.out.size))
  clear hbx
  have HC := Lib.hid hrx
  clear hrx
  generalize w11.alloc (.cells #[.int .i64 0, .int .i64 0, .slice none 0 0] 35) = w12 at *
  obtain ⟨cb, hcb⟩ : ∃ cb, cb = w11.heap.size := ⟨_, rfl⟩
  rw [← hcb] at HC HNHC  ⊢
  clear hcb
  go_wp2_with fail
  refine (K3.out w12 HB.out).mono ?_
  rintro e13 w13 ⟨rfl, hb13⟩
  have HP := Lib.hid (HP.out.keep hb13 HP.out.lt)
  have HQ := Lib.hid (HQ.out.keep hb13 HQ.out.lt)
  have HC := Lib.hid (HC.out.keep hb13 HC.out.lt)
  have HB := Lib.hid (HB.out.trans (hb13.mono HB.out.size))
  clear hb13
  have l0 := row_range HP.out
  go_wp2_with (first | (refine wpList_load_mid rfl 35 _ rfl pb 0 rfl _ _ l0 Tryd.underlying35 rfl infoPat ?_))
  refine (K8.out w13 HB.out).mono ?_
  rintro e14 w14 ⟨rfl, hb14⟩
  clear l0
  have HP := Lib.hid (HP.out.keep hb14 HP.out.lt)
  have HQ := Lib.hid (HQ.out.keep hb14 HQ.out.lt)
  have HC := Lib.hid (HC.out.keep hb14 HC.out.lt)
  have HB := Lib.hid (HB.out.trans (hb14.mono HB.out.size))
  clear hb14
  have HNHU : Hid (pb ≠ w14.heap.size ∧ qb ≠ w14.heap.size ∧ cb ≠ w14.heap.size ∧ w.heap.size ≤ w14.heap.size) := Lib.hid ⟨Nat.ne_of_lt HP.out.lt, Nat.ne_of_lt HQ.out.lt, Nat.ne_of_lt HC.out.lt, HB.out.size⟩
  go_upto_region 16 with fail
  have hrx : Row (w14.alloc (.cells #[.int .i64 0, .int .i64 0, .slice none 0 0] 35)) w14.heap.size 35 (noPat) := row_alloc w14 _ _
  have hbx : Below w14.heap.size w14 (w14.alloc (.cells #[.int .i64 0, .int .i64 0, .slice none 0 0] 35)) := (Below.refl _ _).alloc (Nat.le_refl _) _
  have HP := Lib.hid (HP.out.keep hbx HP.out.lt)
  have HQ := Lib.hid (HQ.out.keep hbx HQ.out.lt)
  have HC := Lib.hid (HC.out.keep hbx HC.out.lt)
  have HB := Lib.hid (HB.out.trans (hbx.mono HB.out.size))
  clear hbx
  have HU := Lib.hid hrx
  clear hrx
  generalize w14.alloc (.cells #[.int .i64 0, .int .i64 0, .slice none 0 0] 35) = w15 at *
  obtain ⟨ub, hub⟩ : ∃ ub, ub = w14.heap.size := ⟨_, rfl⟩
  rw [← hub] at HU HNHU  ⊢
  clear hub
  go_wp2_with fail
  refine (K3.out w15 HB.out).mono ?_
  rintro e16 w16 ⟨rfl, hb16⟩
  have HP := Lib.hid (HP.out.keep hb16 HP.out.lt)
  have HQ := Lib.hid (HQ.out.keep hb16 HQ.out.lt)
  have HC := Lib.hid (HC.out.keep hb16 HC.out.lt)
  have HU := Lib.hid (HU.out.keep hb16 HU.out.lt)
  have HB := Lib.hid (HB.out.trans (hb16.mono HB.out.size))
  clear hb16
  clear hf
  have l0 := row_range HQ.out
  go_wp2_with (first | (refine wpList_load_mid rfl 35 _ rfl qb 0 rfl _ _ l0 Tryd.underlying35 rfl infoPat ?_))
  refine (K9.out w16).mono ?_
  rintro e17 w17 ⟨rfl, hb17⟩
  clear l0
  have HP := Lib.hid (HP.out.keep hb17 HP.out.lt)
  have HQ := Lib.hid (HQ.out.keep hb17 HQ.out.lt)
  have HC := Lib.hid (HC.out.keep hb17 HC.out.lt)
  have HU := Lib.hid (HU.out.keep hb17 HU.out.lt)
  have HB := Lib.hid (HB.out.trans (hb17.mono HB.out.size))
  clear hb17
  have l0 := row_range HC.out
  go_wp2_with (first | (refine wpList_load_mid rfl 35 _ rfl cb 0 rfl _ _ l0 Tryd.underlying35 rfl infoPat ?_))
  refine (K9.out w17).mono ?_
  rintro e18 w18 ⟨rfl, hb18⟩
  clear l0
  have HP := Lib.hid (HP.out.keep hb18 HP.out.lt)
  have HQ := Lib.hid (HQ.out.keep hb18 HQ.out.lt)
  have HC := Lib.hid (HC.out.keep hb18 HC.out.lt)
  have HU := Lib.hid (HU.out.keep hb18 HU.out.lt)
  have HB := Lib.hid (HB.out.trans (hb18.mono HB.out.size))
  clear hb18
  have l0 := row_range HU.out
  go_wp2_with (first | (refine wpList_load_mid rfl 35 _ rfl ub 0 rfl _ _ l0 Tryd.underlying35 rfl infoPat ?_))
  refine (K9.out w18).mono ?_
  rintro e19 w19 ⟨rfl, hb19⟩
  clear l0
  have HP := Lib.hid (HP.out.keep hb19 HP.out.lt)
  have HQ := Lib.hid (HQ.out.keep hb19 HQ.out.lt)
  have HC := Lib.hid (HC.out.keep hb19 HC.out.lt)
  have HU := Lib.hid (HU.out.keep hb19 HU.out.lt)
  have HB := Lib.hid (HB.out.trans (hb19.mono HB.out.size))
  clear hb19
  clear HP HQ HC HU
  go_wp2_with fail
  go_ret
  exact ⟨rfl, HB.out⟩
set_option maxHeartbeats 16000000 in
set_option maxRecDepth 1000000 in
theorem writes_ok (W H : Nat) (a : Option Addr) (n c : Nat) (f : Nat → Nat → Nat) (k : Int) (hk : 0 ≤ k ∧ k ≤ 7) (w : World) (hL : Tld.Laid w) (hT : Tab w) (hM : Marks w) (hZ : Ints.Is w a n (flat W H f)) (hn : n = W * H) (hc : n ≤ c) (hW : W ≤ 100) (hH : H ≤ 100) (hf : ∀ x y, f x y < 2) (hp : pfault W H (flat W H f) = 0) :
    Calls Tryd.prog 5 #[.agg #[.int .i64 W, .int .i64 H, .slice a n c], .int .i64 k] w fun e w' => e = .returned (.bool true) ∧ Below w.heap.size w w' := by
  obtain ⟨W1, H1, X1, Y1, z1, W2, H2, z2, o1, o2, o3, o4⟩ := outcomes W H a n c f w hZ hn hc hW hH hf hp
  have K1 := Lib.hid (fun w2 (h : Below w.heap.size w w2) => shape_any W H a n c (flat W H f) w2 (hZ.keep h))
  have K2 := Lib.hid (fun w2 (h : Below w.heap.size w w2) => pcheck_any W H a n c (flat W H f) w2 hZ.len (by have := hZ.le; unfold maxLen at this; omega) (hZ.keep h).cells)
  rw [hp] at K1
  rw [hp, errV_zero rfl] at K2
  have K3 := Lib.hid (fun w2 (h : Below w.heap.size w w2) => same_nil w2 (hL.keep h))
  have K4 := Lib.hid (fun w2 (h : Below w.heap.size w w2) => Runs_ok W H a n c f w2 (hT.keep h) (hZ.keep h) hn hc hW hH hf hp)
  have K5 := Lib.hid (fun w2 (h : Below w.heap.size w w2) => Draw_ok W H a n c f w2 (hM.keep h) (hZ.keep h) hn hW hH hf hp)
  have R4 := Lib.hid (fun w2 (h : Below w.heap.size w w2) => rruns_any W H a n c f w2 (hZ.keep h) hn hW hH hf)
  have R5 := Lib.hid (fun w2 (h : Below w.heap.size w w2) => rdraw_any W H a n c f w2 (hZ.keep h) hn hW hH hf)
  have K6 := Lib.hid o1
  have R6 := Lib.hid o2
  have K7 := Lib.hid o3
  have R7 := Lib.hid o4
  have A1 := Lib.hid (fun (a1 a2 : Option Addr) (n1 c1 n2 c2 : Nat) w2 h1 h2 => alike_eq W1 H1 a1 n1 c1 a2 n2 c2 z1 w2 h1 h2)
  have A2 := Lib.hid (fun (a1 a2 : Option Addr) (n1 c1 n2 c2 : Nat) w2 h1 h2 => alike_eq W2 H2 a1 n1 c1 a2 n2 c2 z2 w2 h1 h2)
  obtain ⟨kn, rfl⟩ : ∃ kn : Nat, k = kn := ⟨k.toNat, by omega⟩
  have hkn : kn < 8 := by omega
  obtain ⟨W3, H3, z3, o5, o6⟩ := turn_two W H kn a n c f w hZ hn hW hH hkn hp
  have K8 := Lib.hid o5
  have R8 := Lib.hid o6
  have A3 := Lib.hid (fun (a1 a2 : Option Addr) (n1 c1 n2 c2 : Nat) w2 h1 h2 => alike_eq W3 H3 a1 n1 c1 a2 n2 c2 z3 w2 h1 h2)
  have hk1 : ¬ (kn : Int) < 0 := by omega
  have hk2 : ¬ (7 : Int) < (kn : Int) := by omega
  clear o5 o6 hk hkn
  generalize ByteArray.mk (runsS W H f).toArray = sr at *
  generalize ByteArray.mk (drawS W H f).toArray = sd at *
  have sr1 : (sr == sr) = true := ba_self sr
  have sd1 : (sd == sd) = true := ba_self sd
  clear hT hZ hL hc hM o1 o2 o3 o4 hn hW hH hf hp
  go_enter Tryd.func5, Tryd.ntmps5
  go_upto_region 1 with fail
  have HP : Hid (Row (w.alloc (.cells #[.int .i64 W, .int .i64 H, .slice a n c] 35)) w.heap.size 35 (boxP W H a n c)) := Lib.hid (row_alloc w _ (boxP W H a n c))
  have HB : Hid (Below w.heap.size w (w.alloc (.cells #[.int .i64 W, .int .i64 H, .slice a n c] 35))) := Lib.hid ((Below.refl _ _).alloc (Nat.le_refl _) _)
  generalize w.alloc (.cells #[.int .i64 W, .int .i64 H, .slice a n c] 35) = w0 at *
  obtain ⟨pb, hpb⟩ : ∃ pb, pb = w.heap.size := ⟨_, rfl⟩
  rw [← hpb] at HP ⊢
  clear hpb
  have l0 := row_range HP.out
  go_wp2_with (first | (refine wpList_load_mid rfl 35 _ rfl pb 0 rfl _ _ l0 Tryd.underlying35 rfl infoPat ?_))
  refine (K1.out w0 HB.out).mono ?_
  rintro e1 w1 ⟨rfl, hb1⟩
  clear l0
  have HP := Lib.hid (HP.out.keep hb1 HP.out.lt)
  have HB := Lib.hid (HB.out.trans (hb1.mono HB.out.size))
  clear hb1
  have l0 := row_range HP.out
  go_wp2_with (first | (refine wpList_load_mid rfl 35 _ rfl pb 0 rfl _ _ l0 Tryd.underlying35 rfl infoPat ?_))
  refine (K2.out w1 HB.out).mono ?_
  rintro e2 w2 ⟨rfl, hb2⟩
  clear l0
  have HP := Lib.hid (HP.out.keep hb2 HP.out.lt)
  have HB := Lib.hid (HB.out.trans (hb2.mono HB.out.size))
  clear hb2
  go_wp2_with fail
  refine (K3.out w2 HB.out).mono ?_
  rintro e3 w3 ⟨rfl, hb3⟩
  have HP := Lib.hid (HP.out.keep hb3 HP.out.lt)
  have HB := Lib.hid (HB.out.trans (hb3.mono HB.out.size))
  clear hb3
  have l0 := row_range HP.out
  go_wp2_with (first | (refine wpList_load_mid rfl 35 _ rfl pb 0 rfl _ _ l0 Tryd.underlying35 rfl infoPat ?_))
  refine (K4.out w3 HB.out).mono ?_
  rintro e4 w4 ⟨rfl, hb4⟩
  clear l0
  have HP := Lib.hid (HP.out.keep hb4 HP.out.lt)
  have HB := Lib.hid (HB.out.trans (hb4.mono HB.out.size))
  clear hb4
  go_wp2_with fail
  refine (K3.out w4 HB.out).mono ?_
  rintro e5 w5 ⟨rfl, hb5⟩
  have HP := Lib.hid (HP.out.keep hb5 HP.out.lt)
  have HB := Lib.hid (HB.out.trans (hb5.mono HB.out.size))
  clear hb5
  have l0 := row_range HP.out
  go_wp2_with (first | (refine wpList_load_mid rfl 35 _ rfl pb 0 rfl _ _ l0 Tryd.underlying35 rfl infoPat ?_))
  refine (K5.out w5 HB.out).mono ?_
  rintro e6 w6 ⟨rfl, hb6⟩
  clear l0
  have HP := Lib.hid (HP.out.keep hb6 HP.out.lt)
  have HB := Lib.hid (HB.out.trans (hb6.mono HB.out.size))
  clear hb6
  go_wp2_with fail
  refine (K3.out w6 HB.out).mono ?_
  rintro e7 w7 ⟨rfl, hb7⟩
  have HP := Lib.hid (HP.out.keep hb7 HP.out.lt)
  have HB := Lib.hid (HB.out.trans (hb7.mono HB.out.size))
  clear hb7
  have l0 := row_range HP.out
  go_wp2_with (first | (refine wpList_load_mid rfl 35 _ rfl pb 0 rfl _ _ l0 Tryd.underlying35 rfl infoPat ?_))
  refine (K6.out w7 HB.out).mono ?_
  rintro e8 w8 ⟨⟨a1, n1, c1, rfl, hi1⟩, hb8⟩
  clear l0
  have HI1 := Lib.hid hi1
  clear hi1
  have HP := Lib.hid (HP.out.keep hb8 HP.out.lt)
  have HB := Lib.hid (HB.out.trans (hb8.mono HB.out.size))
  clear hb8
  have HNHQ : Hid (pb ≠ w8.heap.size ∧ w.heap.size ≤ w8.heap.size) := Lib.hid ⟨Nat.ne_of_lt HP.out.lt, HB.out.size⟩
  have HNHQHI1 := Lib.hid (is_ne HI1.out)
  go_upto_region 9 with fail
  have hrx : Row (w8.alloc (.cells #[.int .i64 (W1 : Nat), .int .i64 (H1 : Nat), .slice a1 n1 c1] 35)) w8.heap.size 35 (boxP W1 H1 a1 n1 c1) := row_alloc w8 _ _
  have hbx : Below w8.heap.size w8 (w8.alloc (.cells #[.int .i64 (W1 : Nat), .int .i64 (H1 : Nat), .slice a1 n1 c1] 35)) := (Below.refl _ _).alloc (Nat.le_refl _) _
  have HP := Lib.hid (HP.out.keep hbx HP.out.lt)
  have HI1 := Lib.hid (HI1.out.keep hbx)
  have HB := Lib.hid (HB.out.trans (hbx.mono HB.out.size))
  clear hbx
  have HQ := Lib.hid hrx
  clear hrx
  generalize w8.alloc (.cells #[.int .i64 (W1 : Nat), .int .i64 (H1 : Nat), .slice a1 n1 c1] 35) = w9 at *
  obtain ⟨qb, hqb⟩ : ∃ qb, qb = w8.heap.size := ⟨_, rfl⟩
  rw [← hqb] at HQ HNHQ HNHQHI1 ⊢
  clear hqb
  go_wp2_with fail
  refine (K3.out w9 HB.out).mono ?_
  rintro e10 w10 ⟨rfl, hb10⟩
  have HP := Lib.hid (HP.out.keep hb10 HP.out.lt)
  have HQ := Lib.hid (HQ.out.keep hb10 HQ.out.lt)
  have HI1 := Lib.hid (HI1.out.keep hb10)
  have HB := Lib.hid (HB.out.trans (hb10.mono HB.out.size))
  clear hb10
  have l0 := row_range HP.out
  go_wp2_with (first | (refine wpList_load_mid rfl 35 _ rfl pb 0 rfl _ _ l0 Tryd.underlying35 rfl infoPat ?_))
  refine (K7.out w10 HB.out).mono ?_
  rintro e11 w11 ⟨⟨a2, n2, c2, rfl, hi2⟩, hb11⟩
  clear l0
  have HI2 := Lib.hid hi2
  clear hi2
  have HP := Lib.hid (HP.out.keep hb11 HP.out.lt)
  have HQ := Lib.hid (HQ.out.keep hb11 HQ.out.lt)
  have HI1 := Lib.hid (HI1.out.keep hb11)
  have HB := Lib.hid (HB.out.trans (hb11.mono HB.out.size))
  clear hb11
  have HNHC : Hid (pb ≠ w11.heap.size ∧ qb ≠ w11.heap.size ∧ w.heap.size ≤ w11.heap.size) := Lib.hid ⟨Nat.ne_of_lt HP.out.lt, Nat.ne_of_lt HQ.out.lt, HB.out.size⟩
  have HNHCHI1 := Lib.hid (is_ne HI1.out)
  have HNHCHI2 := Lib.hid (is_ne HI2.out)
  go_upto_region 11 with fail
  have hrx : Row (w11.alloc (.cells #[.int .i64 (W2 : Nat), .int .i64 (H2 : Nat), .slice a2 n2 c2] 35)) w11.heap.size 35 (boxP W2 H2 a2 n2 c2) := row_alloc w11 _ _
  have hbx : Below w11.heap.size w11 (w11.alloc (.cells #[.int .i64 (W2 : Nat), .int .i64 (H2 : Nat), .slice a2 n2 c2] 35)) := (Below.refl _ _).alloc (Nat.le_refl _) _
  have HP := Lib.hid (HP.out.keep hbx HP.out.lt)
  have HQ := Lib.hid (HQ.out.keep hbx HQ.out.lt)
  have HI1 := Lib.hid (HI1.out.keep hbx)
  have HI2 := Lib.hid (HI2.out.keep hbx)
  have HB := Lib.hid (HB.out.trans (hbx.mono HB.out.size))
  clear hbx
  have HC := Lib.hid hrx
  clear hrx
  generalize w11.alloc (.cells #[.int .i64 (W2 : Nat), .int .i64 (H2 : Nat), .slice a2 n2 c2] 35) = w12 at *
  obtain ⟨cb, hcb⟩ : ∃ cb, cb = w11.heap.size := ⟨_, rfl⟩
  rw [← hcb] at HC HNHC HNHCHI1 HNHCHI2 ⊢
  clear hcb
  go_wp2_with fail
  refine (K3.out w12 HB.out).mono ?_
  rintro e13 w13 ⟨rfl, hb13⟩
  have HP := Lib.hid (HP.out.keep hb13 HP.out.lt)
  have HQ := Lib.hid (HQ.out.keep hb13 HQ.out.lt)
  have HC := Lib.hid (HC.out.keep hb13 HC.out.lt)
  have HI1 := Lib.hid (HI1.out.keep hb13)
  have HI2 := Lib.hid (HI2.out.keep hb13)
  have HB := Lib.hid (HB.out.trans (hb13.mono HB.out.size))
  clear hb13
  have l0 := row_range HP.out
  go_wp2_with (first | (refine wpList_load_mid rfl 35 _ rfl pb 0 rfl _ _ l0 Tryd.underlying35 rfl infoPat ?_))
  refine (K8.out w13 HB.out).mono ?_
  rintro e14 w14 ⟨⟨a3, n3, c3, rfl, hi3⟩, hb14⟩
  clear l0
  have HI3 := Lib.hid hi3
  clear hi3
  have HP := Lib.hid (HP.out.keep hb14 HP.out.lt)
  have HQ := Lib.hid (HQ.out.keep hb14 HQ.out.lt)
  have HC := Lib.hid (HC.out.keep hb14 HC.out.lt)
  have HI1 := Lib.hid (HI1.out.keep hb14)
  have HI2 := Lib.hid (HI2.out.keep hb14)
  have HB := Lib.hid (HB.out.trans (hb14.mono HB.out.size))
  clear hb14
  have HNHU : Hid (pb ≠ w14.heap.size ∧ qb ≠ w14.heap.size ∧ cb ≠ w14.heap.size ∧ w.heap.size ≤ w14.heap.size) := Lib.hid ⟨Nat.ne_of_lt HP.out.lt, Nat.ne_of_lt HQ.out.lt, Nat.ne_of_lt HC.out.lt, HB.out.size⟩
  have HNHUHI1 := Lib.hid (is_ne HI1.out)
  have HNHUHI2 := Lib.hid (is_ne HI2.out)
  have HNHUHI3 := Lib.hid (is_ne HI3.out)
  go_upto_region 16 with fail
  have hrx : Row (w14.alloc (.cells #[.int .i64 (W3 : Nat), .int .i64 (H3 : Nat), .slice a3 n3 c3] 35)) w14.heap.size 35 (boxP W3 H3 a3 n3 c3) := row_alloc w14 _ _
  have hbx : Below w14.heap.size w14 (w14.alloc (.cells #[.int .i64 (W3 : Nat), .int .i64 (H3 : Nat), .slice a3 n3 c3] 35)) := (Below.refl _ _).alloc (Nat.le_refl _) _
  have HP := Lib.hid (HP.out.keep hbx HP.out.lt)
  have HQ := Lib.hid (HQ.out.keep hbx HQ.out.lt)
  have HC := Lib.hid (HC.out.keep hbx HC.out.lt)
  have HI1 := Lib.hid (HI1.out.keep hbx)
  have HI2 := Lib.hid (HI2.out.keep hbx)
  have HI3 := Lib.hid (HI3.out.keep hbx)
  have HB := Lib.hid (HB.out.trans (hbx.mono HB.out.size))
  clear hbx
  have HU := Lib.hid hrx
  clear hrx
  generalize w14.alloc (.cells #[.int .i64 (W3 : Nat), .int .i64 (H3 : Nat), .slice a3 n3 c3] 35) = w15 at *
  obtain ⟨ub, hub⟩ : ∃ ub, ub = w14.heap.size := ⟨_, rfl⟩
  rw [← hub] at HU HNHU HNHUHI1 HNHUHI2 HNHUHI3 ⊢
  clear hub
  go_wp2_with fail
  refine (K3.out w15 HB.out).mono ?_
  rintro e16 w16 ⟨rfl, hb16⟩
  have HP := Lib.hid (HP.out.keep hb16 HP.out.lt)
  have HQ := Lib.hid (HQ.out.keep hb16 HQ.out.lt)
  have HC := Lib.hid (HC.out.keep hb16 HC.out.lt)
  have HU := Lib.hid (HU.out.keep hb16 HU.out.lt)
  have HI1 := Lib.hid (HI1.out.keep hb16)
  have HI2 := Lib.hid (HI2.out.keep hb16)
  have HI3 := Lib.hid (HI3.out.keep hb16)
  have HB := Lib.hid (HB.out.trans (hb16.mono HB.out.size))
  clear hb16
  have l0 := row_range HP.out
  go_wp2_with (first | (refine wpList_load_mid rfl 35 _ rfl pb 0 rfl _ _ l0 Tryd.underlying35 rfl infoPat ?_))
  refine (R4.out w16 HB.out).mono ?_
  rintro e17 w17 ⟨rfl, hb17⟩
  clear l0
  have HP := Lib.hid (HP.out.keep hb17 HP.out.lt)
  have HQ := Lib.hid (HQ.out.keep hb17 HQ.out.lt)
  have HC := Lib.hid (HC.out.keep hb17 HC.out.lt)
  have HU := Lib.hid (HU.out.keep hb17 HU.out.lt)
  have HI1 := Lib.hid (HI1.out.keep hb17)
  have HI2 := Lib.hid (HI2.out.keep hb17)
  have HI3 := Lib.hid (HI3.out.keep hb17)
  have HB := Lib.hid (HB.out.trans (hb17.mono HB.out.size))
  clear hb17
  have l0 := row_range HP.out
  go_wp2_with (first | (refine wpList_load_mid rfl 35 _ rfl pb 0 rfl _ _ l0 Tryd.underlying35 rfl infoPat ?_))
  refine (R5.out w17 HB.out).mono ?_
  rintro e18 w18 ⟨rfl, hb18⟩
  clear l0
  have HP := Lib.hid (HP.out.keep hb18 HP.out.lt)
  have HQ := Lib.hid (HQ.out.keep hb18 HQ.out.lt)
  have HC := Lib.hid (HC.out.keep hb18 HC.out.lt)
  have HU := Lib.hid (HU.out.keep hb18 HU.out.lt)
  have HI1 := Lib.hid (HI1.out.keep hb18)
  have HI2 := Lib.hid (HI2.out.keep hb18)
  have HI3 := Lib.hid (HI3.out.keep hb18)
  have HB := Lib.hid (HB.out.trans (hb18.mono HB.out.size))
  clear hb18
  have l0 := row_range HP.out
  go_wp2_with (first | (refine wpList_load_mid rfl 35 _ rfl pb 0 rfl _ _ l0 Tryd.underlying35 rfl infoPat ?_))
  refine (R6.out w18 HB.out).mono ?_
  rintro e19 w19 ⟨⟨a4, n4, c4, rfl, hi4⟩, hb19⟩
  clear l0
  have HI4 := Lib.hid hi4
  clear hi4
  have HP := Lib.hid (HP.out.keep hb19 HP.out.lt)
  have HQ := Lib.hid (HQ.out.keep hb19 HQ.out.lt)
  have HC := Lib.hid (HC.out.keep hb19 HC.out.lt)
  have HU := Lib.hid (HU.out.keep hb19 HU.out.lt)
  have HI1 := Lib.hid (HI1.out.keep hb19)
  have HI2 := Lib.hid (HI2.out.keep hb19)
  have HI3 := Lib.hid (HI3.out.keep hb19)
  have HB := Lib.hid (HB.out.trans (hb19.mono HB.out.size))
  clear hb19
  have HNHZ : Hid (pb ≠ w19.heap.size ∧ qb ≠ w19.heap.size ∧ cb ≠ w19.heap.size ∧ ub ≠ w19.heap.size ∧ w.heap.size ≤ w19.heap.size) := Lib.hid ⟨Nat.ne_of_lt HP.out.lt, Nat.ne_of_lt HQ.out.lt, Nat.ne_of_lt HC.out.lt, Nat.ne_of_lt HU.out.lt, HB.out.size⟩
  have HNHZHI1 := Lib.hid (is_ne HI1.out)
  have HNHZHI2 := Lib.hid (is_ne HI2.out)
  have HNHZHI3 := Lib.hid (is_ne HI3.out)
  have HNHZHI4 := Lib.hid (is_ne HI4.out)
  go_upto_region 27 with fail
  have hrx : Row (w19.alloc (.cells #[.int .i64 (W1 : Nat), .int .i64 (H1 : Nat), .slice a4 n4 c4] 35)) w19.heap.size 35 (boxP W1 H1 a4 n4 c4) := row_alloc w19 _ _
  have hbx : Below w19.heap.size w19 (w19.alloc (.cells #[.int .i64 (W1 : Nat), .int .i64 (H1 : Nat), .slice a4 n4 c4] 35)) := (Below.refl _ _).alloc (Nat.le_refl _) _
  have HP := Lib.hid (HP.out.keep hbx HP.out.lt)
  have HQ := Lib.hid (HQ.out.keep hbx HQ.out.lt)
  have HC := Lib.hid (HC.out.keep hbx HC.out.lt)
  have HU := Lib.hid (HU.out.keep hbx HU.out.lt)
  have HI1 := Lib.hid (HI1.out.keep hbx)
  have HI2 := Lib.hid (HI2.out.keep hbx)
  have HI3 := Lib.hid (HI3.out.keep hbx)
  have HI4 := Lib.hid (HI4.out.keep hbx)
  have HB := Lib.hid (HB.out.trans (hbx.mono HB.out.size))
  clear hbx
  have HZ := Lib.hid hrx
  clear hrx
  generalize w19.alloc (.cells #[.int .i64 (W1 : Nat), .int .i64 (H1 : Nat), .slice a4 n4 c4] 35) = w20 at *
  obtain ⟨zb, hzb⟩ : ∃ zb, zb = w19.heap.size := ⟨_, rfl⟩
  rw [← hzb] at HZ HNHZ HNHZHI1 HNHZHI2 HNHZHI3 HNHZHI4 ⊢
  clear hzb
  have l0 := row_range HQ.out
  have l1 := row_range HZ.out
  go_wp2_with (first | (refine wpList_load_mid rfl 35 _ rfl qb 0 rfl _ _ l0 Tryd.underlying35 rfl infoPat ?_) | (refine wpList_load_mid rfl 35 _ rfl zb 0 rfl _ _ l1 Tryd.underlying35 rfl infoPat ?_))
  refine (A1.out _ _ _ _ _ _ w20 HI1.out HI4.out).mono ?_
  rintro e21 w21 ⟨rfl, hb21⟩
  clear l0 l1
  have HP := Lib.hid (HP.out.keep hb21 HP.out.lt)
  have HQ := Lib.hid (HQ.out.keep hb21 HQ.out.lt)
  have HC := Lib.hid (HC.out.keep hb21 HC.out.lt)
  have HU := Lib.hid (HU.out.keep hb21 HU.out.lt)
  have HZ := Lib.hid (HZ.out.keep hb21 HZ.out.lt)
  have HI1 := Lib.hid (HI1.out.keep hb21)
  have HI2 := Lib.hid (HI2.out.keep hb21)
  have HI3 := Lib.hid (HI3.out.keep hb21)
  have HI4 := Lib.hid (HI4.out.keep hb21)
  have HB := Lib.hid (HB.out.trans (hb21.mono HB.out.size))
  clear hb21
  clear HI1 HI4 HQ
  have l0 := row_range HP.out
  go_wp2_with (first | (refine wpList_load_mid rfl 35 _ rfl pb 0 rfl _ _ l0 Tryd.underlying35 rfl infoPat ?_))
  refine (R7.out w21 HB.out).mono ?_
  rintro e22 w22 ⟨⟨a5, n5, c5, rfl, hi5, hb5x⟩, hb22⟩
  clear l0
  have HI5 := Lib.hid hi5
  have HAB5 : Hid (∀ b o, a5 = some ⟨b, o, none⟩ → n5 ≠ 0 → b ≠ zb) := Lib.hid (fun b o e h0 => by have := hb5x b o e h0; have := HZ.out.lt; omega)
  clear hi5 hb5x
  have HP := Lib.hid (HP.out.keep hb22 HP.out.lt)
  have HC := Lib.hid (HC.out.keep hb22 HC.out.lt)
  have HU := Lib.hid (HU.out.keep hb22 HU.out.lt)
  have HZ := Lib.hid (HZ.out.keep hb22 HZ.out.lt)
  have HI2 := Lib.hid (HI2.out.keep hb22)
  have HI3 := Lib.hid (HI3.out.keep hb22)
  have HB := Lib.hid (HB.out.trans (hb22.mono HB.out.size))
  clear hb22
  have hrs := HZ.out
  go_upto_region 29 with (refine Ops.wpList_store_arr rfl 35 _ _ rfl zb rfl 35 _ (boxP W2 H2 a5 n5 c5) rfl hrs rfl infoPat (boxP_one _ _ _ _ _) ?_; intro w23 hrn hon)
  clear hrs
  have HP := Lib.hid (HP.out.other hon HNHZ.out.1)
  have HC := Lib.hid (HC.out.other hon HNHZ.out.2.2.1)
  have HU := Lib.hid (HU.out.other hon HNHZ.out.2.2.2.1)
  have HI2 := Lib.hid (is_other3 HI2.out hon HNHZHI2.out)
  have HI3 := Lib.hid (is_other3 HI3.out hon HNHZHI3.out)
  have HI5 := Lib.hid (is_other3 HI5.out hon HAB5.out)
  have HB := Lib.hid (HB.out.trans (hon.below HNHZ.out.2.2.2.2))
  have HZ := Lib.hid hrn
  clear hrn hon
  have l0 := row_range HC.out
  have l1 := row_range HZ.out
  go_wp2_with (first | (refine wpList_load_mid rfl 35 _ rfl cb 0 rfl _ _ l0 Tryd.underlying35 rfl infoPat ?_) | (refine wpList_load_mid rfl 35 _ rfl zb 0 rfl _ _ l1 Tryd.underlying35 rfl infoPat ?_))
  refine (A2.out _ _ _ _ _ _ w23 HI2.out HI5.out).mono ?_
  rintro e24 w24 ⟨rfl, hb24⟩
  clear l0 l1
  have HP := Lib.hid (HP.out.keep hb24 HP.out.lt)
  have HC := Lib.hid (HC.out.keep hb24 HC.out.lt)
  have HU := Lib.hid (HU.out.keep hb24 HU.out.lt)
  have HZ := Lib.hid (HZ.out.keep hb24 HZ.out.lt)
  have HI2 := Lib.hid (HI2.out.keep hb24)
  have HI3 := Lib.hid (HI3.out.keep hb24)
  have HB := Lib.hid (HB.out.trans (hb24.mono HB.out.size))
  clear hb24
  clear HI2 HC
  clear HI5
  have l0 := row_range HP.out
  go_wp2_with (first | (refine wpList_load_mid rfl 35 _ rfl pb 0 rfl _ _ l0 Tryd.underlying35 rfl infoPat ?_))
  refine (R8.out w24 HB.out).mono ?_
  rintro e25 w25 ⟨⟨a6, n6, c6, rfl, hi6, hb6x⟩, hb25⟩
  clear l0
  have HI6 := Lib.hid hi6
  have HAB6 : Hid (∀ b o, a6 = some ⟨b, o, none⟩ → n6 ≠ 0 → b ≠ zb) := Lib.hid (fun b o e h0 => by have := hb6x b o e h0; have := HZ.out.lt; omega)
  clear hi6 hb6x
  have HP := Lib.hid (HP.out.keep hb25 HP.out.lt)
  have HU := Lib.hid (HU.out.keep hb25 HU.out.lt)
  have HZ := Lib.hid (HZ.out.keep hb25 HZ.out.lt)
  have HI3 := Lib.hid (HI3.out.keep hb25)
  have HB := Lib.hid (HB.out.trans (hb25.mono HB.out.size))
  clear hb25
  have hrs := HZ.out
  go_upto_region 33 with (refine Ops.wpList_store_arr rfl 35 _ _ rfl zb rfl 35 _ (boxP W3 H3 a6 n6 c6) rfl hrs rfl infoPat (boxP_one _ _ _ _ _) ?_; intro w26 hrn hon)
  clear hrs
  have HP := Lib.hid (HP.out.other hon HNHZ.out.1)
  have HU := Lib.hid (HU.out.other hon HNHZ.out.2.2.2.1)
  have HI3 := Lib.hid (is_other3 HI3.out hon HNHZHI3.out)
  have HI6 := Lib.hid (is_other3 HI6.out hon HAB6.out)
  have HB := Lib.hid (HB.out.trans (hon.below HNHZ.out.2.2.2.2))
  have HZ := Lib.hid hrn
  clear hrn hon
  have l0 := row_range HU.out
  have l1 := row_range HZ.out
  go_wp2_with (first | (refine wpList_load_mid rfl 35 _ rfl ub 0 rfl _ _ l0 Tryd.underlying35 rfl infoPat ?_) | (refine wpList_load_mid rfl 35 _ rfl zb 0 rfl _ _ l1 Tryd.underlying35 rfl infoPat ?_))
  refine (A3.out _ _ _ _ _ _ w26 HI3.out HI6.out).mono ?_
  rintro e27 w27 ⟨rfl, hb27⟩
  clear l0 l1
  have HP := Lib.hid (HP.out.keep hb27 HP.out.lt)
  have HU := Lib.hid (HU.out.keep hb27 HU.out.lt)
  have HZ := Lib.hid (HZ.out.keep hb27 HZ.out.lt)
  have HI3 := Lib.hid (HI3.out.keep hb27)
  have HB := Lib.hid (HB.out.trans (hb27.mono HB.out.size))
  clear hb27
  clear HP HU HZ
  go_wp2_with fail
  go_ret
  exact ⟨by simp [sr1, sd1], HB.out⟩
set_option maxHeartbeats 16000000 in
set_option maxRecDepth 1000000 in
theorem writes_far (W H : Nat) (a : Option Addr) (n c : Nat) (f : Nat → Nat → Nat) (k : Int) (hk : 7 < k) (w : World) (hL : Tld.Laid w) (hT : Tab w) (hM : Marks w) (hZ : Ints.Is w a n (flat W H f)) (hn : n = W * H) (hc : n ≤ c) (hW : W ≤ 100) (hH : H ≤ 100) (hf : ∀ x y, f x y < 2) (hp : pfault W H (flat W H f) = 0) :
    Calls Tryd.prog 5 #[.agg #[.int .i64 W, .int .i64 H, .slice a n c], .int .i64 k] w fun e w' => e = .returned (.bool true) ∧ Below w.heap.size w w' := by
  obtain ⟨W1, H1, X1, Y1, z1, W2, H2, z2, o1, o2, o3, o4⟩ := outcomes W H a n c f w hZ hn hc hW hH hf hp
  have K1 := Lib.hid (fun w2 (h : Below w.heap.size w w2) => shape_any W H a n c (flat W H f) w2 (hZ.keep h))
  have K2 := Lib.hid (fun w2 (h : Below w.heap.size w w2) => pcheck_any W H a n c (flat W H f) w2 hZ.len (by have := hZ.le; unfold maxLen at this; omega) (hZ.keep h).cells)
  rw [hp] at K1
  rw [hp, errV_zero rfl] at K2
  have K3 := Lib.hid (fun w2 (h : Below w.heap.size w w2) => same_nil w2 (hL.keep h))
  have K4 := Lib.hid (fun w2 (h : Below w.heap.size w w2) => Runs_ok W H a n c f w2 (hT.keep h) (hZ.keep h) hn hc hW hH hf hp)
  have K5 := Lib.hid (fun w2 (h : Below w.heap.size w w2) => Draw_ok W H a n c f w2 (hM.keep h) (hZ.keep h) hn hW hH hf hp)
  have R4 := Lib.hid (fun w2 (h : Below w.heap.size w w2) => rruns_any W H a n c f w2 (hZ.keep h) hn hW hH hf)
  have R5 := Lib.hid (fun w2 (h : Below w.heap.size w w2) => rdraw_any W H a n c f w2 (hZ.keep h) hn hW hH hf)
  have K6 := Lib.hid o1
  have R6 := Lib.hid o2
  have K7 := Lib.hid o3
  have R7 := Lib.hid o4
  have A1 := Lib.hid (fun (a1 a2 : Option Addr) (n1 c1 n2 c2 : Nat) w2 h1 h2 => alike_eq W1 H1 a1 n1 c1 a2 n2 c2 z1 w2 h1 h2)
  have A2 := Lib.hid (fun (a1 a2 : Option Addr) (n1 c1 n2 c2 : Nat) w2 h1 h2 => alike_eq W2 H2 a1 n1 c1 a2 n2 c2 z2 w2 h1 h2)
  have ht : tfl W H (flat W H f) k = 1 := by unfold tfl; rw [if_neg (fun x => x hp), if_pos (by omega)]
  have K8 := Lib.hid (fun w2 (h : Below w.heap.size w w2) => Turn_bad W H a n c (flat W H f) k w2 (hZ.keep h) (by rw [ht]; decide))
  have K10 := Lib.hid (fun w2 (h : Below w.heap.size w w2) => same_self 1 w2 (hL.keep h) (by decide))
  rw [ht] at K8
  generalize errV 1 = fv at *
  clear ht
  have hk1 : ¬ k < 0 := by omega
  generalize ByteArray.mk (runsS W H f).toArray = sr at *
  generalize ByteArray.mk (drawS W H f).toArray = sd at *
  have sr1 : (sr == sr) = true := ba_self sr
  have sd1 : (sd == sd) = true := ba_self sd
  clear hT hZ hL hc hM o1 o2 o3 o4 hn hW hH hf hp
  go_enter Tryd.func5, Tryd.ntmps5
  go_upto_region 1 with fail
  have HP : Hid (Row (w.alloc (.cells #[.int .i64 W, .int .i64 H, .slice a n c] 35)) w.heap.size 35 (boxP W H a n c)) := Lib.hid (row_alloc w _ (boxP W H a n c))
  have HB : Hid (Below w.heap.size w (w.alloc (.cells #[.int .i64 W, .int .i64 H, .slice a n c] 35))) := Lib.hid ((Below.refl _ _).alloc (Nat.le_refl _) _)
  generalize w.alloc (.cells #[.int .i64 W, .int .i64 H, .slice a n c] 35) = w0 at *
  obtain ⟨pb, hpb⟩ : ∃ pb, pb = w.heap.size := ⟨_, rfl⟩
  rw [← hpb] at HP ⊢
  clear hpb
  have l0 := row_range HP.out
  go_wp2_with (first | (refine wpList_load_mid rfl 35 _ rfl pb 0 rfl _ _ l0 Tryd.underlying35 rfl infoPat ?_))
  refine (K1.out w0 HB.out).mono ?_
  rintro e1 w1 ⟨rfl, hb1⟩
  clear l0
  have HP := Lib.hid (HP.out.keep hb1 HP.out.lt)
  have HB := Lib.hid (HB.out.trans (hb1.mono HB.out.size))
  clear hb1
  have l0 := row_range HP.out
  go_wp2_with (first | (refine wpList_load_mid rfl 35 _ rfl pb 0 rfl _ _ l0 Tryd.underlying35 rfl infoPat ?_))
  refine (K2.out w1 HB.out).mono ?_
  rintro e2 w2 ⟨rfl, hb2⟩
  clear l0
  have HP := Lib.hid (HP.out.keep hb2 HP.out.lt)
  have HB := Lib.hid (HB.out.trans (hb2.mono HB.out.size))
  clear hb2
  go_wp2_with fail
  refine (K3.out w2 HB.out).mono ?_
  rintro e3 w3 ⟨rfl, hb3⟩
  have HP := Lib.hid (HP.out.keep hb3 HP.out.lt)
  have HB := Lib.hid (HB.out.trans (hb3.mono HB.out.size))
  clear hb3
  have l0 := row_range HP.out
  go_wp2_with (first | (refine wpList_load_mid rfl 35 _ rfl pb 0 rfl _ _ l0 Tryd.underlying35 rfl infoPat ?_))
  refine (K4.out w3 HB.out).mono ?_
  rintro e4 w4 ⟨rfl, hb4⟩
  clear l0
  have HP := Lib.hid (HP.out.keep hb4 HP.out.lt)
  have HB := Lib.hid (HB.out.trans (hb4.mono HB.out.size))
  clear hb4
  go_wp2_with fail
  refine (K3.out w4 HB.out).mono ?_
  rintro e5 w5 ⟨rfl, hb5⟩
  have HP := Lib.hid (HP.out.keep hb5 HP.out.lt)
  have HB := Lib.hid (HB.out.trans (hb5.mono HB.out.size))
  clear hb5
  have l0 := row_range HP.out
  go_wp2_with (first | (refine wpList_load_mid rfl 35 _ rfl pb 0 rfl _ _ l0 Tryd.underlying35 rfl infoPat ?_))
  refine (K5.out w5 HB.out).mono ?_
  rintro e6 w6 ⟨rfl, hb6⟩
  clear l0
  have HP := Lib.hid (HP.out.keep hb6 HP.out.lt)
  have HB := Lib.hid (HB.out.trans (hb6.mono HB.out.size))
  clear hb6
  go_wp2_with fail
  refine (K3.out w6 HB.out).mono ?_
  rintro e7 w7 ⟨rfl, hb7⟩
  have HP := Lib.hid (HP.out.keep hb7 HP.out.lt)
  have HB := Lib.hid (HB.out.trans (hb7.mono HB.out.size))
  clear hb7
  have l0 := row_range HP.out
  go_wp2_with (first | (refine wpList_load_mid rfl 35 _ rfl pb 0 rfl _ _ l0 Tryd.underlying35 rfl infoPat ?_))
  refine (K6.out w7 HB.out).mono ?_
  rintro e8 w8 ⟨⟨a1, n1, c1, rfl, hi1⟩, hb8⟩
  clear l0
  have HI1 := Lib.hid hi1
  clear hi1
  have HP := Lib.hid (HP.out.keep hb8 HP.out.lt)
  have HB := Lib.hid (HB.out.trans (hb8.mono HB.out.size))
  clear hb8
  have HNHQ : Hid (pb ≠ w8.heap.size ∧ w.heap.size ≤ w8.heap.size) := Lib.hid ⟨Nat.ne_of_lt HP.out.lt, HB.out.size⟩
  have HNHQHI1 := Lib.hid (is_ne HI1.out)
  go_upto_region 9 with fail
  have hrx : Row (w8.alloc (.cells #[.int .i64 (W1 : Nat), .int .i64 (H1 : Nat), .slice a1 n1 c1] 35)) w8.heap.size 35 (boxP W1 H1 a1 n1 c1) := row_alloc w8 _ _
  have hbx : Below w8.heap.size w8 (w8.alloc (.cells #[.int .i64 (W1 : Nat), .int .i64 (H1 : Nat), .slice a1 n1 c1] 35)) := (Below.refl _ _).alloc (Nat.le_refl _) _
  have HP := Lib.hid (HP.out.keep hbx HP.out.lt)
  have HI1 := Lib.hid (HI1.out.keep hbx)
  have HB := Lib.hid (HB.out.trans (hbx.mono HB.out.size))
  clear hbx
  have HQ := Lib.hid hrx
  clear hrx
  generalize w8.alloc (.cells #[.int .i64 (W1 : Nat), .int .i64 (H1 : Nat), .slice a1 n1 c1] 35) = w9 at *
  obtain ⟨qb, hqb⟩ : ∃ qb, qb = w8.heap.size := ⟨_, rfl⟩
  rw [← hqb] at HQ HNHQ HNHQHI1 ⊢
  clear hqb
  go_wp2_with fail
  refine (K3.out w9 HB.out).mono ?_
  rintro e10 w10 ⟨rfl, hb10⟩
  have HP := Lib.hid (HP.out.keep hb10 HP.out.lt)
  have HQ := Lib.hid (HQ.out.keep hb10 HQ.out.lt)
  have HI1 := Lib.hid (HI1.out.keep hb10)
  have HB := Lib.hid (HB.out.trans (hb10.mono HB.out.size))
  clear hb10
  have l0 := row_range HP.out
  go_wp2_with (first | (refine wpList_load_mid rfl 35 _ rfl pb 0 rfl _ _ l0 Tryd.underlying35 rfl infoPat ?_))
  refine (K7.out w10 HB.out).mono ?_
  rintro e11 w11 ⟨⟨a2, n2, c2, rfl, hi2⟩, hb11⟩
  clear l0
  have HI2 := Lib.hid hi2
  clear hi2
  have HP := Lib.hid (HP.out.keep hb11 HP.out.lt)
  have HQ := Lib.hid (HQ.out.keep hb11 HQ.out.lt)
  have HI1 := Lib.hid (HI1.out.keep hb11)
  have HB := Lib.hid (HB.out.trans (hb11.mono HB.out.size))
  clear hb11
  have HNHC : Hid (pb ≠ w11.heap.size ∧ qb ≠ w11.heap.size ∧ w.heap.size ≤ w11.heap.size) := Lib.hid ⟨Nat.ne_of_lt HP.out.lt, Nat.ne_of_lt HQ.out.lt, HB.out.size⟩
  have HNHCHI1 := Lib.hid (is_ne HI1.out)
  have HNHCHI2 := Lib.hid (is_ne HI2.out)
  go_upto_region 11 with fail
  have hrx : Row (w11.alloc (.cells #[.int .i64 (W2 : Nat), .int .i64 (H2 : Nat), .slice a2 n2 c2] 35)) w11.heap.size 35 (boxP W2 H2 a2 n2 c2) := row_alloc w11 _ _
  have hbx : Below w11.heap.size w11 (w11.alloc (.cells #[.int .i64 (W2 : Nat), .int .i64 (H2 : Nat), .slice a2 n2 c2] 35)) := (Below.refl _ _).alloc (Nat.le_refl _) _
  have HP := Lib.hid (HP.out.keep hbx HP.out.lt)
  have HQ := Lib.hid (HQ.out.keep hbx HQ.out.lt)
  have HI1 := Lib.hid (HI1.out.keep hbx)
  have HI2 := Lib.hid (HI2.out.keep hbx)
  have HB := Lib.hid (HB.out.trans (hbx.mono HB.out.size))
  clear hbx
  have HC := Lib.hid hrx
  clear hrx
  generalize w11.alloc (.cells #[.int .i64 (W2 : Nat), .int .i64 (H2 : Nat), .slice a2 n2 c2] 35) = w12 at *
  obtain ⟨cb, hcb⟩ : ∃ cb, cb = w11.heap.size := ⟨_, rfl⟩
  rw [← hcb] at HC HNHC HNHCHI1 HNHCHI2 ⊢
  clear hcb
  go_wp2_with fail
  refine (K3.out w12 HB.out).mono ?_
  rintro e13 w13 ⟨rfl, hb13⟩
  have HP := Lib.hid (HP.out.keep hb13 HP.out.lt)
  have HQ := Lib.hid (HQ.out.keep hb13 HQ.out.lt)
  have HC := Lib.hid (HC.out.keep hb13 HC.out.lt)
  have HI1 := Lib.hid (HI1.out.keep hb13)
  have HI2 := Lib.hid (HI2.out.keep hb13)
  have HB := Lib.hid (HB.out.trans (hb13.mono HB.out.size))
  clear hb13
  have l0 := row_range HP.out
  go_wp2_with (first | (refine wpList_load_mid rfl 35 _ rfl pb 0 rfl _ _ l0 Tryd.underlying35 rfl infoPat ?_))
  refine (K8.out w13 HB.out).mono ?_
  rintro e14 w14 ⟨rfl, hb14⟩
  clear l0
  have HP := Lib.hid (HP.out.keep hb14 HP.out.lt)
  have HQ := Lib.hid (HQ.out.keep hb14 HQ.out.lt)
  have HC := Lib.hid (HC.out.keep hb14 HC.out.lt)
  have HI1 := Lib.hid (HI1.out.keep hb14)
  have HI2 := Lib.hid (HI2.out.keep hb14)
  have HB := Lib.hid (HB.out.trans (hb14.mono HB.out.size))
  clear hb14
  have HNHU : Hid (pb ≠ w14.heap.size ∧ qb ≠ w14.heap.size ∧ cb ≠ w14.heap.size ∧ w.heap.size ≤ w14.heap.size) := Lib.hid ⟨Nat.ne_of_lt HP.out.lt, Nat.ne_of_lt HQ.out.lt, Nat.ne_of_lt HC.out.lt, HB.out.size⟩
  have HNHUHI1 := Lib.hid (is_ne HI1.out)
  have HNHUHI2 := Lib.hid (is_ne HI2.out)
  go_upto_region 16 with fail
  have hrx : Row (w14.alloc (.cells #[.int .i64 0, .int .i64 0, .slice none 0 0] 35)) w14.heap.size 35 (noPat) := row_alloc w14 _ _
  have hbx : Below w14.heap.size w14 (w14.alloc (.cells #[.int .i64 0, .int .i64 0, .slice none 0 0] 35)) := (Below.refl _ _).alloc (Nat.le_refl _) _
  have HP := Lib.hid (HP.out.keep hbx HP.out.lt)
  have HQ := Lib.hid (HQ.out.keep hbx HQ.out.lt)
  have HC := Lib.hid (HC.out.keep hbx HC.out.lt)
  have HI1 := Lib.hid (HI1.out.keep hbx)
  have HI2 := Lib.hid (HI2.out.keep hbx)
  have HB := Lib.hid (HB.out.trans (hbx.mono HB.out.size))
  clear hbx
  have HU := Lib.hid hrx
  clear hrx
  generalize w14.alloc (.cells #[.int .i64 0, .int .i64 0, .slice none 0 0] 35) = w15 at *
  obtain ⟨ub, hub⟩ : ∃ ub, ub = w14.heap.size := ⟨_, rfl⟩
  rw [← hub] at HU HNHU HNHUHI1 HNHUHI2 ⊢
  clear hub
  go_wp2_with fail
  refine (K10.out w15 HB.out).mono ?_
  rintro e16 w16 ⟨rfl, hb16⟩
  have HP := Lib.hid (HP.out.keep hb16 HP.out.lt)
  have HQ := Lib.hid (HQ.out.keep hb16 HQ.out.lt)
  have HC := Lib.hid (HC.out.keep hb16 HC.out.lt)
  have HU := Lib.hid (HU.out.keep hb16 HU.out.lt)
  have HI1 := Lib.hid (HI1.out.keep hb16)
  have HI2 := Lib.hid (HI2.out.keep hb16)
  have HB := Lib.hid (HB.out.trans (hb16.mono HB.out.size))
  clear hb16
  have l0 := row_range HP.out
  go_wp2_with (first | (refine wpList_load_mid rfl 35 _ rfl pb 0 rfl _ _ l0 Tryd.underlying35 rfl infoPat ?_))
  refine (R4.out w16 HB.out).mono ?_
  rintro e17 w17 ⟨rfl, hb17⟩
  clear l0
  have HP := Lib.hid (HP.out.keep hb17 HP.out.lt)
  have HQ := Lib.hid (HQ.out.keep hb17 HQ.out.lt)
  have HC := Lib.hid (HC.out.keep hb17 HC.out.lt)
  have HU := Lib.hid (HU.out.keep hb17 HU.out.lt)
  have HI1 := Lib.hid (HI1.out.keep hb17)
  have HI2 := Lib.hid (HI2.out.keep hb17)
  have HB := Lib.hid (HB.out.trans (hb17.mono HB.out.size))
  clear hb17
  have l0 := row_range HP.out
  go_wp2_with (first | (refine wpList_load_mid rfl 35 _ rfl pb 0 rfl _ _ l0 Tryd.underlying35 rfl infoPat ?_))
  refine (R5.out w17 HB.out).mono ?_
  rintro e18 w18 ⟨rfl, hb18⟩
  clear l0
  have HP := Lib.hid (HP.out.keep hb18 HP.out.lt)
  have HQ := Lib.hid (HQ.out.keep hb18 HQ.out.lt)
  have HC := Lib.hid (HC.out.keep hb18 HC.out.lt)
  have HU := Lib.hid (HU.out.keep hb18 HU.out.lt)
  have HI1 := Lib.hid (HI1.out.keep hb18)
  have HI2 := Lib.hid (HI2.out.keep hb18)
  have HB := Lib.hid (HB.out.trans (hb18.mono HB.out.size))
  clear hb18
  have l0 := row_range HP.out
  go_wp2_with (first | (refine wpList_load_mid rfl 35 _ rfl pb 0 rfl _ _ l0 Tryd.underlying35 rfl infoPat ?_))
  refine (R6.out w18 HB.out).mono ?_
  rintro e19 w19 ⟨⟨a4, n4, c4, rfl, hi4⟩, hb19⟩
  clear l0
  have HI4 := Lib.hid hi4
  clear hi4
  have HP := Lib.hid (HP.out.keep hb19 HP.out.lt)
  have HQ := Lib.hid (HQ.out.keep hb19 HQ.out.lt)
  have HC := Lib.hid (HC.out.keep hb19 HC.out.lt)
  have HU := Lib.hid (HU.out.keep hb19 HU.out.lt)
  have HI1 := Lib.hid (HI1.out.keep hb19)
  have HI2 := Lib.hid (HI2.out.keep hb19)
  have HB := Lib.hid (HB.out.trans (hb19.mono HB.out.size))
  clear hb19
  have HNHZ : Hid (pb ≠ w19.heap.size ∧ qb ≠ w19.heap.size ∧ cb ≠ w19.heap.size ∧ ub ≠ w19.heap.size ∧ w.heap.size ≤ w19.heap.size) := Lib.hid ⟨Nat.ne_of_lt HP.out.lt, Nat.ne_of_lt HQ.out.lt, Nat.ne_of_lt HC.out.lt, Nat.ne_of_lt HU.out.lt, HB.out.size⟩
  have HNHZHI1 := Lib.hid (is_ne HI1.out)
  have HNHZHI2 := Lib.hid (is_ne HI2.out)
  have HNHZHI4 := Lib.hid (is_ne HI4.out)
  go_upto_region 27 with fail
  have hrx : Row (w19.alloc (.cells #[.int .i64 (W1 : Nat), .int .i64 (H1 : Nat), .slice a4 n4 c4] 35)) w19.heap.size 35 (boxP W1 H1 a4 n4 c4) := row_alloc w19 _ _
  have hbx : Below w19.heap.size w19 (w19.alloc (.cells #[.int .i64 (W1 : Nat), .int .i64 (H1 : Nat), .slice a4 n4 c4] 35)) := (Below.refl _ _).alloc (Nat.le_refl _) _
  have HP := Lib.hid (HP.out.keep hbx HP.out.lt)
  have HQ := Lib.hid (HQ.out.keep hbx HQ.out.lt)
  have HC := Lib.hid (HC.out.keep hbx HC.out.lt)
  have HU := Lib.hid (HU.out.keep hbx HU.out.lt)
  have HI1 := Lib.hid (HI1.out.keep hbx)
  have HI2 := Lib.hid (HI2.out.keep hbx)
  have HI4 := Lib.hid (HI4.out.keep hbx)
  have HB := Lib.hid (HB.out.trans (hbx.mono HB.out.size))
  clear hbx
  have HZ := Lib.hid hrx
  clear hrx
  generalize w19.alloc (.cells #[.int .i64 (W1 : Nat), .int .i64 (H1 : Nat), .slice a4 n4 c4] 35) = w20 at *
  obtain ⟨zb, hzb⟩ : ∃ zb, zb = w19.heap.size := ⟨_, rfl⟩
  rw [← hzb] at HZ HNHZ HNHZHI1 HNHZHI2 HNHZHI4 ⊢
  clear hzb
  have l0 := row_range HQ.out
  have l1 := row_range HZ.out
  go_wp2_with (first | (refine wpList_load_mid rfl 35 _ rfl qb 0 rfl _ _ l0 Tryd.underlying35 rfl infoPat ?_) | (refine wpList_load_mid rfl 35 _ rfl zb 0 rfl _ _ l1 Tryd.underlying35 rfl infoPat ?_))
  refine (A1.out _ _ _ _ _ _ w20 HI1.out HI4.out).mono ?_
  rintro e21 w21 ⟨rfl, hb21⟩
  clear l0 l1
  have HP := Lib.hid (HP.out.keep hb21 HP.out.lt)
  have HQ := Lib.hid (HQ.out.keep hb21 HQ.out.lt)
  have HC := Lib.hid (HC.out.keep hb21 HC.out.lt)
  have HU := Lib.hid (HU.out.keep hb21 HU.out.lt)
  have HZ := Lib.hid (HZ.out.keep hb21 HZ.out.lt)
  have HI1 := Lib.hid (HI1.out.keep hb21)
  have HI2 := Lib.hid (HI2.out.keep hb21)
  have HI4 := Lib.hid (HI4.out.keep hb21)
  have HB := Lib.hid (HB.out.trans (hb21.mono HB.out.size))
  clear hb21
  clear HI1 HI4 HQ
  have l0 := row_range HP.out
  go_wp2_with (first | (refine wpList_load_mid rfl 35 _ rfl pb 0 rfl _ _ l0 Tryd.underlying35 rfl infoPat ?_))
  refine (R7.out w21 HB.out).mono ?_
  rintro e22 w22 ⟨⟨a5, n5, c5, rfl, hi5, hb5x⟩, hb22⟩
  clear l0
  have HI5 := Lib.hid hi5
  have HAB5 : Hid (∀ b o, a5 = some ⟨b, o, none⟩ → n5 ≠ 0 → b ≠ zb) := Lib.hid (fun b o e h0 => by have := hb5x b o e h0; have := HZ.out.lt; omega)
  clear hi5 hb5x
  have HP := Lib.hid (HP.out.keep hb22 HP.out.lt)
  have HC := Lib.hid (HC.out.keep hb22 HC.out.lt)
  have HU := Lib.hid (HU.out.keep hb22 HU.out.lt)
  have HZ := Lib.hid (HZ.out.keep hb22 HZ.out.lt)
  have HI2 := Lib.hid (HI2.out.keep hb22)
  have HB := Lib.hid (HB.out.trans (hb22.mono HB.out.size))
  clear hb22
  have hrs := HZ.out
  go_upto_region 29 with (refine Ops.wpList_store_arr rfl 35 _ _ rfl zb rfl 35 _ (boxP W2 H2 a5 n5 c5) rfl hrs rfl infoPat (boxP_one _ _ _ _ _) ?_; intro w23 hrn hon)
  clear hrs
  have HP := Lib.hid (HP.out.other hon HNHZ.out.1)
  have HC := Lib.hid (HC.out.other hon HNHZ.out.2.2.1)
  have HU := Lib.hid (HU.out.other hon HNHZ.out.2.2.2.1)
  have HI2 := Lib.hid (is_other3 HI2.out hon HNHZHI2.out)
  have HI5 := Lib.hid (is_other3 HI5.out hon HAB5.out)
  have HB := Lib.hid (HB.out.trans (hon.below HNHZ.out.2.2.2.2))
  have HZ := Lib.hid hrn
  clear hrn hon
  have l0 := row_range HC.out
  have l1 := row_range HZ.out
  go_wp2_with (first | (refine wpList_load_mid rfl 35 _ rfl cb 0 rfl _ _ l0 Tryd.underlying35 rfl infoPat ?_) | (refine wpList_load_mid rfl 35 _ rfl zb 0 rfl _ _ l1 Tryd.underlying35 rfl infoPat ?_))
  refine (A2.out _ _ _ _ _ _ w23 HI2.out HI5.out).mono ?_
  rintro e24 w24 ⟨rfl, hb24⟩
  clear l0 l1
  have HP := Lib.hid (HP.out.keep hb24 HP.out.lt)
  have HC := Lib.hid (HC.out.keep hb24 HC.out.lt)
  have HU := Lib.hid (HU.out.keep hb24 HU.out.lt)
  have HZ := Lib.hid (HZ.out.keep hb24 HZ.out.lt)
  have HI2 := Lib.hid (HI2.out.keep hb24)
  have HB := Lib.hid (HB.out.trans (hb24.mono HB.out.size))
  clear hb24
  clear HP HU HZ
  go_wp2_with fail
  go_ret
  exact ⟨by simp [sr1, sd1], HB.out⟩
set_option maxHeartbeats 16000000 in
set_option maxRecDepth 1000000 in
theorem writes_low (W H : Nat) (a : Option Addr) (n c : Nat) (f : Nat → Nat → Nat) (k : Int) (hk : k < 0) (w : World) (hL : Tld.Laid w) (hT : Tab w) (hM : Marks w) (hZ : Ints.Is w a n (flat W H f)) (hn : n = W * H) (hc : n ≤ c) (hW : W ≤ 100) (hH : H ≤ 100) (hf : ∀ x y, f x y < 2) (hp : pfault W H (flat W H f) = 0) :
    Calls Tryd.prog 5 #[.agg #[.int .i64 W, .int .i64 H, .slice a n c], .int .i64 k] w fun e w' => e = .returned (.bool true) ∧ Below w.heap.size w w' := by
  obtain ⟨W1, H1, X1, Y1, z1, W2, H2, z2, o1, o2, o3, o4⟩ := outcomes W H a n c f w hZ hn hc hW hH hf hp
  have K1 := Lib.hid (fun w2 (h : Below w.heap.size w w2) => shape_any W H a n c (flat W H f) w2 (hZ.keep h))
  have K2 := Lib.hid (fun w2 (h : Below w.heap.size w w2) => pcheck_any W H a n c (flat W H f) w2 hZ.len (by have := hZ.le; unfold maxLen at this; omega) (hZ.keep h).cells)
  rw [hp] at K1
  rw [hp, errV_zero rfl] at K2
  have K3 := Lib.hid (fun w2 (h : Below w.heap.size w w2) => same_nil w2 (hL.keep h))
  have K4 := Lib.hid (fun w2 (h : Below w.heap.size w w2) => Runs_ok W H a n c f w2 (hT.keep h) (hZ.keep h) hn hc hW hH hf hp)
  have K5 := Lib.hid (fun w2 (h : Below w.heap.size w w2) => Draw_ok W H a n c f w2 (hM.keep h) (hZ.keep h) hn hW hH hf hp)
  have R4 := Lib.hid (fun w2 (h : Below w.heap.size w w2) => rruns_any W H a n c f w2 (hZ.keep h) hn hW hH hf)
  have R5 := Lib.hid (fun w2 (h : Below w.heap.size w w2) => rdraw_any W H a n c f w2 (hZ.keep h) hn hW hH hf)
  have K6 := Lib.hid o1
  have R6 := Lib.hid o2
  have K7 := Lib.hid o3
  have R7 := Lib.hid o4
  have A1 := Lib.hid (fun (a1 a2 : Option Addr) (n1 c1 n2 c2 : Nat) w2 h1 h2 => alike_eq W1 H1 a1 n1 c1 a2 n2 c2 z1 w2 h1 h2)
  have A2 := Lib.hid (fun (a1 a2 : Option Addr) (n1 c1 n2 c2 : Nat) w2 h1 h2 => alike_eq W2 H2 a1 n1 c1 a2 n2 c2 z2 w2 h1 h2)
  have ht : tfl W H (flat W H f) k = 1 := by unfold tfl; rw [if_neg (fun x => x hp), if_pos (by omega)]
  have K8 := Lib.hid (fun w2 (h : Below w.heap.size w w2) => Turn_bad W H a n c (flat W H f) k w2 (hZ.keep h) (by rw [ht]; decide))
  have K10 := Lib.hid (fun w2 (h : Below w.heap.size w w2) => same_self 1 w2 (hL.keep h) (by decide))
  rw [ht] at K8
  generalize errV 1 = fv at *
  clear ht
  generalize ByteArray.mk (runsS W H f).toArray = sr at *
  generalize ByteArray.mk (drawS W H f).toArray = sd at *
  have sr1 : (sr == sr) = true := ba_self sr
  have sd1 : (sd == sd) = true := ba_self sd
  clear hT hZ hL hc hM o1 o2 o3 o4 hn hW hH hf hp
  go_enter Tryd.func5, Tryd.ntmps5
  go_upto_region 1 with fail
  have HP : Hid (Row (w.alloc (.cells #[.int .i64 W, .int .i64 H, .slice a n c] 35)) w.heap.size 35 (boxP W H a n c)) := Lib.hid (row_alloc w _ (boxP W H a n c))
  have HB : Hid (Below w.heap.size w (w.alloc (.cells #[.int .i64 W, .int .i64 H, .slice a n c] 35))) := Lib.hid ((Below.refl _ _).alloc (Nat.le_refl _) _)
  generalize w.alloc (.cells #[.int .i64 W, .int .i64 H, .slice a n c] 35) = w0 at *
  obtain ⟨pb, hpb⟩ : ∃ pb, pb = w.heap.size := ⟨_, rfl⟩
  rw [← hpb] at HP ⊢
  clear hpb
  have l0 := row_range HP.out
  go_wp2_with (first | (refine wpList_load_mid rfl 35 _ rfl pb 0 rfl _ _ l0 Tryd.underlying35 rfl infoPat ?_))
  refine (K1.out w0 HB.out).mono ?_
  rintro e1 w1 ⟨rfl, hb1⟩
  clear l0
  have HP := Lib.hid (HP.out.keep hb1 HP.out.lt)
  have HB := Lib.hid (HB.out.trans (hb1.mono HB.out.size))
  clear hb1
  have l0 := row_range HP.out
  go_wp2_with (first | (refine wpList_load_mid rfl 35 _ rfl pb 0 rfl _ _ l0 Tryd.underlying35 rfl infoPat ?_))
  refine (K2.out w1 HB.out).mono ?_
  rintro e2 w2 ⟨rfl, hb2⟩
  clear l0
  have HP := Lib.hid (HP.out.keep hb2 HP.out.lt)
  have HB := Lib.hid (HB.out.trans (hb2.mono HB.out.size))
  clear hb2
  go_wp2_with fail
  refine (K3.out w2 HB.out).mono ?_
  rintro e3 w3 ⟨rfl, hb3⟩
  have HP := Lib.hid (HP.out.keep hb3 HP.out.lt)
  have HB := Lib.hid (HB.out.trans (hb3.mono HB.out.size))
  clear hb3
  have l0 := row_range HP.out
  go_wp2_with (first | (refine wpList_load_mid rfl 35 _ rfl pb 0 rfl _ _ l0 Tryd.underlying35 rfl infoPat ?_))
  refine (K4.out w3 HB.out).mono ?_
  rintro e4 w4 ⟨rfl, hb4⟩
  clear l0
  have HP := Lib.hid (HP.out.keep hb4 HP.out.lt)
  have HB := Lib.hid (HB.out.trans (hb4.mono HB.out.size))
  clear hb4
  go_wp2_with fail
  refine (K3.out w4 HB.out).mono ?_
  rintro e5 w5 ⟨rfl, hb5⟩
  have HP := Lib.hid (HP.out.keep hb5 HP.out.lt)
  have HB := Lib.hid (HB.out.trans (hb5.mono HB.out.size))
  clear hb5
  have l0 := row_range HP.out
  go_wp2_with (first | (refine wpList_load_mid rfl 35 _ rfl pb 0 rfl _ _ l0 Tryd.underlying35 rfl infoPat ?_))
  refine (K5.out w5 HB.out).mono ?_
  rintro e6 w6 ⟨rfl, hb6⟩
  clear l0
  have HP := Lib.hid (HP.out.keep hb6 HP.out.lt)
  have HB := Lib.hid (HB.out.trans (hb6.mono HB.out.size))
  clear hb6
  go_wp2_with fail
  refine (K3.out w6 HB.out).mono ?_
  rintro e7 w7 ⟨rfl, hb7⟩
  have HP := Lib.hid (HP.out.keep hb7 HP.out.lt)
  have HB := Lib.hid (HB.out.trans (hb7.mono HB.out.size))
  clear hb7
  have l0 := row_range HP.out
  go_wp2_with (first | (refine wpList_load_mid rfl 35 _ rfl pb 0 rfl _ _ l0 Tryd.underlying35 rfl infoPat ?_))
  refine (K6.out w7 HB.out).mono ?_
  rintro e8 w8 ⟨⟨a1, n1, c1, rfl, hi1⟩, hb8⟩
  clear l0
  have HI1 := Lib.hid hi1
  clear hi1
  have HP := Lib.hid (HP.out.keep hb8 HP.out.lt)
  have HB := Lib.hid (HB.out.trans (hb8.mono HB.out.size))
  clear hb8
  have HNHQ : Hid (pb ≠ w8.heap.size ∧ w.heap.size ≤ w8.heap.size) := Lib.hid ⟨Nat.ne_of_lt HP.out.lt, HB.out.size⟩
  have HNHQHI1 := Lib.hid (is_ne HI1.out)
  go_upto_region 9 with fail
  have hrx : Row (w8.alloc (.cells #[.int .i64 (W1 : Nat), .int .i64 (H1 : Nat), .slice a1 n1 c1] 35)) w8.heap.size 35 (boxP W1 H1 a1 n1 c1) := row_alloc w8 _ _
  have hbx : Below w8.heap.size w8 (w8.alloc (.cells #[.int .i64 (W1 : Nat), .int .i64 (H1 : Nat), .slice a1 n1 c1] 35)) := (Below.refl _ _).alloc (Nat.le_refl _) _
  have HP := Lib.hid (HP.out.keep hbx HP.out.lt)
  have HI1 := Lib.hid (HI1.out.keep hbx)
  have HB := Lib.hid (HB.out.trans (hbx.mono HB.out.size))
  clear hbx
  have HQ := Lib.hid hrx
  clear hrx
  generalize w8.alloc (.cells #[.int .i64 (W1 : Nat), .int .i64 (H1 : Nat), .slice a1 n1 c1] 35) = w9 at *
  obtain ⟨qb, hqb⟩ : ∃ qb, qb = w8.heap.size := ⟨_, rfl⟩
  rw [← hqb] at HQ HNHQ HNHQHI1 ⊢
  clear hqb
  go_wp2_with fail
  refine (K3.out w9 HB.out).mono ?_
  rintro e10 w10 ⟨rfl, hb10⟩
  have HP := Lib.hid (HP.out.keep hb10 HP.out.lt)
  have HQ := Lib.hid (HQ.out.keep hb10 HQ.out.lt)
  have HI1 := Lib.hid (HI1.out.keep hb10)
  have HB := Lib.hid (HB.out.trans (hb10.mono HB.out.size))
  clear hb10
  have l0 := row_range HP.out
  go_wp2_with (first | (refine wpList_load_mid rfl 35 _ rfl pb 0 rfl _ _ l0 Tryd.underlying35 rfl infoPat ?_))
  refine (K7.out w10 HB.out).mono ?_
  rintro e11 w11 ⟨⟨a2, n2, c2, rfl, hi2⟩, hb11⟩
  clear l0
  have HI2 := Lib.hid hi2
  clear hi2
  have HP := Lib.hid (HP.out.keep hb11 HP.out.lt)
  have HQ := Lib.hid (HQ.out.keep hb11 HQ.out.lt)
  have HI1 := Lib.hid (HI1.out.keep hb11)
  have HB := Lib.hid (HB.out.trans (hb11.mono HB.out.size))
  clear hb11
  have HNHC : Hid (pb ≠ w11.heap.size ∧ qb ≠ w11.heap.size ∧ w.heap.size ≤ w11.heap.size) := Lib.hid ⟨Nat.ne_of_lt HP.out.lt, Nat.ne_of_lt HQ.out.lt, HB.out.size⟩
  have HNHCHI1 := Lib.hid (is_ne HI1.out)
  have HNHCHI2 := Lib.hid (is_ne HI2.out)
  go_upto_region 11 with fail
  have hrx : Row (w11.alloc (.cells #[.int .i64 (W2 : Nat), .int .i64 (H2 : Nat), .slice a2 n2 c2] 35)) w11.heap.size 35 (boxP W2 H2 a2 n2 c2) := row_alloc w11 _ _
  have hbx : Below w11.heap.size w11 (w11.alloc (.cells #[.int .i64 (W2 : Nat), .int .i64 (H2 : Nat), .slice a2 n2 c2] 35)) := (Below.refl _ _).alloc (Nat.le_refl _) _
  have HP := Lib.hid (HP.out.keep hbx HP.out.lt)
  have HQ := Lib.hid (HQ.out.keep hbx HQ.out.lt)
  have HI1 := Lib.hid (HI1.out.keep hbx)
  have HI2 := Lib.hid (HI2.out.keep hbx)
  have HB := Lib.hid (HB.out.trans (hbx.mono HB.out.size))
  clear hbx
  have HC := Lib.hid hrx
  clear hrx
  generalize w11.alloc (.cells #[.int .i64 (W2 : Nat), .int .i64 (H2 : Nat), .slice a2 n2 c2] 35) = w12 at *
  obtain ⟨cb, hcb⟩ : ∃ cb, cb = w11.heap.size := ⟨_, rfl⟩
  rw [← hcb] at HC HNHC HNHCHI1 HNHCHI2 ⊢
  clear hcb
  go_wp2_with fail
  refine (K3.out w12 HB.out).mono ?_
  rintro e13 w13 ⟨rfl, hb13⟩
  have HP := Lib.hid (HP.out.keep hb13 HP.out.lt)
  have HQ := Lib.hid (HQ.out.keep hb13 HQ.out.lt)
  have HC := Lib.hid (HC.out.keep hb13 HC.out.lt)
  have HI1 := Lib.hid (HI1.out.keep hb13)
  have HI2 := Lib.hid (HI2.out.keep hb13)
  have HB := Lib.hid (HB.out.trans (hb13.mono HB.out.size))
  clear hb13
  have l0 := row_range HP.out
  go_wp2_with (first | (refine wpList_load_mid rfl 35 _ rfl pb 0 rfl _ _ l0 Tryd.underlying35 rfl infoPat ?_))
  refine (K8.out w13 HB.out).mono ?_
  rintro e14 w14 ⟨rfl, hb14⟩
  clear l0
  have HP := Lib.hid (HP.out.keep hb14 HP.out.lt)
  have HQ := Lib.hid (HQ.out.keep hb14 HQ.out.lt)
  have HC := Lib.hid (HC.out.keep hb14 HC.out.lt)
  have HI1 := Lib.hid (HI1.out.keep hb14)
  have HI2 := Lib.hid (HI2.out.keep hb14)
  have HB := Lib.hid (HB.out.trans (hb14.mono HB.out.size))
  clear hb14
  have HNHU : Hid (pb ≠ w14.heap.size ∧ qb ≠ w14.heap.size ∧ cb ≠ w14.heap.size ∧ w.heap.size ≤ w14.heap.size) := Lib.hid ⟨Nat.ne_of_lt HP.out.lt, Nat.ne_of_lt HQ.out.lt, Nat.ne_of_lt HC.out.lt, HB.out.size⟩
  have HNHUHI1 := Lib.hid (is_ne HI1.out)
  have HNHUHI2 := Lib.hid (is_ne HI2.out)
  go_upto_region 16 with fail
  have hrx : Row (w14.alloc (.cells #[.int .i64 0, .int .i64 0, .slice none 0 0] 35)) w14.heap.size 35 (noPat) := row_alloc w14 _ _
  have hbx : Below w14.heap.size w14 (w14.alloc (.cells #[.int .i64 0, .int .i64 0, .slice none 0 0] 35)) := (Below.refl _ _).alloc (Nat.le_refl _) _
  have HP := Lib.hid (HP.out.keep hbx HP.out.lt)
  have HQ := Lib.hid (HQ.out.keep hbx HQ.out.lt)
  have HC := Lib.hid (HC.out.keep hbx HC.out.lt)
  have HI1 := Lib.hid (HI1.out.keep hbx)
  have HI2 := Lib.hid (HI2.out.keep hbx)
  have HB := Lib.hid (HB.out.trans (hbx.mono HB.out.size))
  clear hbx
  have HU := Lib.hid hrx
  clear hrx
  generalize w14.alloc (.cells #[.int .i64 0, .int .i64 0, .slice none 0 0] 35) = w15 at *
  obtain ⟨ub, hub⟩ : ∃ ub, ub = w14.heap.size := ⟨_, rfl⟩
  rw [← hub] at HU HNHU HNHUHI1 HNHUHI2 ⊢
  clear hub
  go_wp2_with fail
  refine (K10.out w15 HB.out).mono ?_
  rintro e16 w16 ⟨rfl, hb16⟩
  have HP := Lib.hid (HP.out.keep hb16 HP.out.lt)
  have HQ := Lib.hid (HQ.out.keep hb16 HQ.out.lt)
  have HC := Lib.hid (HC.out.keep hb16 HC.out.lt)
  have HU := Lib.hid (HU.out.keep hb16 HU.out.lt)
  have HI1 := Lib.hid (HI1.out.keep hb16)
  have HI2 := Lib.hid (HI2.out.keep hb16)
  have HB := Lib.hid (HB.out.trans (hb16.mono HB.out.size))
  clear hb16
  have l0 := row_range HP.out
  go_wp2_with (first | (refine wpList_load_mid rfl 35 _ rfl pb 0 rfl _ _ l0 Tryd.underlying35 rfl infoPat ?_))
  refine (R4.out w16 HB.out).mono ?_
  rintro e17 w17 ⟨rfl, hb17⟩
  clear l0
  have HP := Lib.hid (HP.out.keep hb17 HP.out.lt)
  have HQ := Lib.hid (HQ.out.keep hb17 HQ.out.lt)
  have HC := Lib.hid (HC.out.keep hb17 HC.out.lt)
  have HU := Lib.hid (HU.out.keep hb17 HU.out.lt)
  have HI1 := Lib.hid (HI1.out.keep hb17)
  have HI2 := Lib.hid (HI2.out.keep hb17)
  have HB := Lib.hid (HB.out.trans (hb17.mono HB.out.size))
  clear hb17
  have l0 := row_range HP.out
  go_wp2_with (first | (refine wpList_load_mid rfl 35 _ rfl pb 0 rfl _ _ l0 Tryd.underlying35 rfl infoPat ?_))
  refine (R5.out w17 HB.out).mono ?_
  rintro e18 w18 ⟨rfl, hb18⟩
  clear l0
  have HP := Lib.hid (HP.out.keep hb18 HP.out.lt)
  have HQ := Lib.hid (HQ.out.keep hb18 HQ.out.lt)
  have HC := Lib.hid (HC.out.keep hb18 HC.out.lt)
  have HU := Lib.hid (HU.out.keep hb18 HU.out.lt)
  have HI1 := Lib.hid (HI1.out.keep hb18)
  have HI2 := Lib.hid (HI2.out.keep hb18)
  have HB := Lib.hid (HB.out.trans (hb18.mono HB.out.size))
  clear hb18
  have l0 := row_range HP.out
  go_wp2_with (first | (refine wpList_load_mid rfl 35 _ rfl pb 0 rfl _ _ l0 Tryd.underlying35 rfl infoPat ?_))
  refine (R6.out w18 HB.out).mono ?_
  rintro e19 w19 ⟨⟨a4, n4, c4, rfl, hi4⟩, hb19⟩
  clear l0
  have HI4 := Lib.hid hi4
  clear hi4
  have HP := Lib.hid (HP.out.keep hb19 HP.out.lt)
  have HQ := Lib.hid (HQ.out.keep hb19 HQ.out.lt)
  have HC := Lib.hid (HC.out.keep hb19 HC.out.lt)
  have HU := Lib.hid (HU.out.keep hb19 HU.out.lt)
  have HI1 := Lib.hid (HI1.out.keep hb19)
  have HI2 := Lib.hid (HI2.out.keep hb19)
  have HB := Lib.hid (HB.out.trans (hb19.mono HB.out.size))
  clear hb19
  have HNHZ : Hid (pb ≠ w19.heap.size ∧ qb ≠ w19.heap.size ∧ cb ≠ w19.heap.size ∧ ub ≠ w19.heap.size ∧ w.heap.size ≤ w19.heap.size) := Lib.hid ⟨Nat.ne_of_lt HP.out.lt, Nat.ne_of_lt HQ.out.lt, Nat.ne_of_lt HC.out.lt, Nat.ne_of_lt HU.out.lt, HB.out.size⟩
  have HNHZHI1 := Lib.hid (is_ne HI1.out)
  have HNHZHI2 := Lib.hid (is_ne HI2.out)
  have HNHZHI4 := Lib.hid (is_ne HI4.out)
  go_upto_region 27 with fail
  have hrx : Row (w19.alloc (.cells #[.int .i64 (W1 : Nat), .int .i64 (H1 : Nat), .slice a4 n4 c4] 35)) w19.heap.size 35 (boxP W1 H1 a4 n4 c4) := row_alloc w19 _ _
  have hbx : Below w19.heap.size w19 (w19.alloc (.cells #[.int .i64 (W1 : Nat), .int .i64 (H1 : Nat), .slice a4 n4 c4] 35)) := (Below.refl _ _).alloc (Nat.le_refl _) _
  have HP := Lib.hid (HP.out.keep hbx HP.out.lt)
  have HQ := Lib.hid (HQ.out.keep hbx HQ.out.lt)
  have HC := Lib.hid (HC.out.keep hbx HC.out.lt)
  have HU := Lib.hid (HU.out.keep hbx HU.out.lt)
  have HI1 := Lib.hid (HI1.out.keep hbx)
  have HI2 := Lib.hid (HI2.out.keep hbx)
  have HI4 := Lib.hid (HI4.out.keep hbx)
  have HB := Lib.hid (HB.out.trans (hbx.mono HB.out.size))
  clear hbx
  have HZ := Lib.hid hrx
  clear hrx
  generalize w19.alloc (.cells #[.int .i64 (W1 : Nat), .int .i64 (H1 : Nat), .slice a4 n4 c4] 35) = w20 at *
  obtain ⟨zb, hzb⟩ : ∃ zb, zb = w19.heap.size := ⟨_, rfl⟩
  rw [← hzb] at HZ HNHZ HNHZHI1 HNHZHI2 HNHZHI4 ⊢
  clear hzb
  have l0 := row_range HQ.out
  have l1 := row_range HZ.out
  go_wp2_with (first | (refine wpList_load_mid rfl 35 _ rfl qb 0 rfl _ _ l0 Tryd.underlying35 rfl infoPat ?_) | (refine wpList_load_mid rfl 35 _ rfl zb 0 rfl _ _ l1 Tryd.underlying35 rfl infoPat ?_))
  refine (A1.out _ _ _ _ _ _ w20 HI1.out HI4.out).mono ?_
  rintro e21 w21 ⟨rfl, hb21⟩
  clear l0 l1
  have HP := Lib.hid (HP.out.keep hb21 HP.out.lt)
  have HQ := Lib.hid (HQ.out.keep hb21 HQ.out.lt)
  have HC := Lib.hid (HC.out.keep hb21 HC.out.lt)
  have HU := Lib.hid (HU.out.keep hb21 HU.out.lt)
  have HZ := Lib.hid (HZ.out.keep hb21 HZ.out.lt)
  have HI1 := Lib.hid (HI1.out.keep hb21)
  have HI2 := Lib.hid (HI2.out.keep hb21)
  have HI4 := Lib.hid (HI4.out.keep hb21)
  have HB := Lib.hid (HB.out.trans (hb21.mono HB.out.size))
  clear hb21
  clear HI1 HI4 HQ
  have l0 := row_range HP.out
  go_wp2_with (first | (refine wpList_load_mid rfl 35 _ rfl pb 0 rfl _ _ l0 Tryd.underlying35 rfl infoPat ?_))
  refine (R7.out w21 HB.out).mono ?_
  rintro e22 w22 ⟨⟨a5, n5, c5, rfl, hi5, hb5x⟩, hb22⟩
  clear l0
  have HI5 := Lib.hid hi5
  have HAB5 : Hid (∀ b o, a5 = some ⟨b, o, none⟩ → n5 ≠ 0 → b ≠ zb) := Lib.hid (fun b o e h0 => by have := hb5x b o e h0; have := HZ.out.lt; omega)
  clear hi5 hb5x
  have HP := Lib.hid (HP.out.keep hb22 HP.out.lt)
  have HC := Lib.hid (HC.out.keep hb22 HC.out.lt)
  have HU := Lib.hid (HU.out.keep hb22 HU.out.lt)
  have HZ := Lib.hid (HZ.out.keep hb22 HZ.out.lt)
  have HI2 := Lib.hid (HI2.out.keep hb22)
  have HB := Lib.hid (HB.out.trans (hb22.mono HB.out.size))
  clear hb22
  have hrs := HZ.out
  go_upto_region 29 with (refine Ops.wpList_store_arr rfl 35 _ _ rfl zb rfl 35 _ (boxP W2 H2 a5 n5 c5) rfl hrs rfl infoPat (boxP_one _ _ _ _ _) ?_; intro w23 hrn hon)
  clear hrs
  have HP := Lib.hid (HP.out.other hon HNHZ.out.1)
  have HC := Lib.hid (HC.out.other hon HNHZ.out.2.2.1)
  have HU := Lib.hid (HU.out.other hon HNHZ.out.2.2.2.1)
  have HI2 := Lib.hid (is_other3 HI2.out hon HNHZHI2.out)
  have HI5 := Lib.hid (is_other3 HI5.out hon HAB5.out)
  have HB := Lib.hid (HB.out.trans (hon.below HNHZ.out.2.2.2.2))
  have HZ := Lib.hid hrn
  clear hrn hon
  have l0 := row_range HC.out
  have l1 := row_range HZ.out
  go_wp2_with (first | (refine wpList_load_mid rfl 35 _ rfl cb 0 rfl _ _ l0 Tryd.underlying35 rfl infoPat ?_) | (refine wpList_load_mid rfl 35 _ rfl zb 0 rfl _ _ l1 Tryd.underlying35 rfl infoPat ?_))
  refine (A2.out _ _ _ _ _ _ w23 HI2.out HI5.out).mono ?_
  rintro e24 w24 ⟨rfl, hb24⟩
  clear l0 l1
  have HP := Lib.hid (HP.out.keep hb24 HP.out.lt)
  have HC := Lib.hid (HC.out.keep hb24 HC.out.lt)
  have HU := Lib.hid (HU.out.keep hb24 HU.out.lt)
  have HZ := Lib.hid (HZ.out.keep hb24 HZ.out.lt)
  have HI2 := Lib.hid (HI2.out.keep hb24)
  have HB := Lib.hid (HB.out.trans (hb24.mono HB.out.size))
  clear hb24
  clear HP HU HZ
  go_wp2_with fail
  go_ret
  exact ⟨by simp [sr1, sd1], HB.out⟩
theorem writes_any (W H : Int) (a : Option Addr) (n c : Nat) (zs : List Int) (k : Int) (w : World) (hL : Tld.Laid w) (hT : Tab w) (hM : Marks w) (hZ : Ints.Is w a n zs) (hc : n ≤ c) :
    Calls Tryd.prog 5 #[.agg #[.int .i64 W, .int .i64 H, .slice a n c], .int .i64 k] w fun e w' => e = .returned (.bool true) ∧ Below w.heap.size w w' := by
  by_cases h : pfault W H zs = 0
  · obtain ⟨W', H', rfl, rfl, hW, hH, hl, hz, hf⟩ := pfault_zero h
    have hn : n = W' * H' := by rw [← hl]; exact hZ.len.symm
    rw [hz] at hZ h
    by_cases h1 : k < 0
    · exact writes_low W' H' a n c _ k h1 w hL hT hM hZ hn hc hW hH hf h
    · by_cases h2 : 7 < k
      · exact writes_far W' H' a n c _ k h2 w hL hT hM hZ hn hc hW hH hf h
      · exact writes_ok W' H' a n c _ k ⟨by omega, by omega⟩ w hL hT hM hZ hn hc hW hH hf h
  · exact writes_bad W H a n c zs k w hL hT hM hZ hc h
end Pw
end Go.Proofs.YtgagophijmiceaaDoor
