/- THE LAW PlaneTurns: its walk, out of its callees' contracts. -/
import Derived.Test.YtdckcejkliggfaaDoorPnL
import Derived.Test.YtdckcejkliggfaaDoorPnY
namespace Go.Proofs.YtdckcejkliggfaaDoor
set_option linter.unusedSimpArgs false
set_option linter.unusedVariables false
open Go.RowKit
namespace Pn
open Tld Mem Bl
theorem alike_same (W1 H1 : Int) (a1 : Option Addr) (n c1 : Nat) (a2 : Option Addr) (c2 : Nat) (zs : List Int) (w : World) (h1 : Ints.Is w a1 n zs) (h2 : Ints.Is w a2 n zs) :
    Calls Tryd.prog 9 #[.agg #[.int .i64 W1, .int .i64 H1, .slice a1 n c1], .agg #[.int .i64 W1, .int .i64 H1, .slice a2 n c2]] w fun e w' => e = .returned (.bool true) ∧ Below w.heap.size w w' :=
  (alike_any W1 H1 a1 n c1 zs W1 H1 a2 n c2 zs w h1 h2).mono fun e w' h => ⟨by rw [h.1, decide_eq_true ⟨rfl, rfl, rfl⟩], h.2⟩
theorem bb_all (W H : Nat) (f : Nat → Nat → Nat) : ∀ k, k ≤ W * H → ∃ l t r b, BB W H f k l t r b
  | 0, _ => ⟨_, _, _, _, BB.zero⟩
  | k + 1, hk => by
    obtain ⟨l, t, r, b, h⟩ := bb_all W H f k (by omega)
    have hW : 0 < W := by
      rcases Nat.eq_zero_or_pos W with e | e
      · rw [e, Nat.zero_mul] at hk; omega
      · exact e
    by_cases hc : f (k % W) (k / W) = 0
    · exact ⟨_, _, _, _, h.dead hc⟩
    · exact ⟨_, _, _, _, h.live hc rfl rfl (Nat.mod_lt _ hW) (Nat.div_lt_of_lt_mul (by omega))⟩
theorem ext_box (W H : Nat) (f : Nat → Nat → Nat) (hd : ¬ Dead (ext W H f)) : ∃ l t r b, Box (ext W H f) l t r b := by
  obtain ⟨l, t, r, b, h⟩ := bb_all W H f (W * H) (Nat.le_refl _)
  by_cases hr : r < 0
  · exact absurd (lies_ext.dead (h.none hr)) hd
  · obtain ⟨l', t', r', b', _, _, _, _, hg⟩ := h.box hr
    exact (lies_ext.held (c := f) hg).box hd
/-- What Torus gives, whatever is wrong: a pattern and an error. -/
theorem Torus_all (K B S st ra : Int) (ta : Option Addr) (tn tc : Nat) (tz : List Int) (tu : ByteArray) (W H : Int) (a : Option Addr) (n c : Nat) (zs : List Int) (w : World) (hT : Ints.Is w ta tn tz) (hu : tu.size ≤ 9223372036854775807) (hZ : Ints.Is w a n zs) :
    Calls Tryd.prog 8 #[.agg #[.int .i64 K, .int .i64 B, .int .i64 S, .int .i64 st, .int .i64 ra, .slice ta tn tc, .string tu], .agg #[.int .i64 W, .int .i64 H, .slice a n c]] w fun e w' => (∃ W' H' : Int, ∃ a' n' c', e = .returned (.tuple #[.agg #[.int .i64 W', .int .i64 H', .slice a' n' c'], errV (plf K B S st ra tn tz tu W H zs)])) ∧ Below w.heap.size w w' := by
  by_cases h : plf K B S st ra tn tz tu W H zs = 0
  · obtain ⟨rfl, hl, hp⟩ := plf_zero h
    obtain ⟨W', H', rfl, rfl, hW, hH, hlen, hzs, hlt⟩ := pfault_zero hp
    obtain ⟨Bn, rfl, hB⟩ := bits_nat hl.b
    obtain ⟨Sn, rfl, hS⟩ := bits_nat hl.s
    have hn := hZ.len
    rw [hzs] at hZ h
    refine (Torus_ok 1 st ra Bn Sn ta tn tc tz tu W' H' a n c (cel zs W') w hB hS hT hu hZ (by rw [← hn]; exact hlen) (by omega) (by omega) hlt h).mono ?_
    rintro e w' ⟨⟨g, rfl, _⟩, hb⟩
    rw [hzs, h]
    exact ⟨⟨_, _, _, _, _, rfl⟩, hb⟩
  · exact (Torus_bad K B S st ra ta tn tc tz tu W H a n c zs w hT hu hZ h).mono fun e w' h2 => ⟨⟨_, _, _, _, _, h2.1⟩, h2.2⟩
set_option maxHeartbeats 16000000 in
set_option maxRecDepth 1000000 in
theorem planeTurns_bad1 (K B S st ra : Int) (ta : Option Addr) (tn tc : Nat) (tz : List Int) (tu : ByteArray) (W H : Int) (a : Option Addr) (n c : Nat) (zs : List Int) (k : Int) (w : World) (hT : Ints.Is w ta tn tz) (hu : tu.size ≤ 9223372036854775807) (hZ : Ints.Is w a n zs) (hf : tfl W H zs k ≠ 0) :
    Calls Tryd.prog 3 #[.agg #[.int .i64 K, .int .i64 B, .int .i64 S, .int .i64 st, .int .i64 ra, .slice ta tn tc, .string tu], .agg #[.int .i64 W, .int .i64 H, .slice a n c], .int .i64 k] w fun e w' => e = .returned (.bool true) ∧ Below w.heap.size w w' := by
  have K0 := Lib.hid (fun w2 => lives_any w2)
  have K1 := Lib.hid (fun w2 (h : Below w.heap.size w w2) => Turn_bad W H a n c zs k w2 (hZ.keep h) hf)
  have K2 := Lib.hid (fun w2 (h : Below w.heap.size w w2) => Torus_all K B S st ra ta tn tc tz tu W H a n c zs w2 (hT.keep h) hu (hZ.keep h))
  have hev := errV_some hf
  rw [hev] at K1
  generalize tfl W H zs k = ev at *
  obtain ⟨fv, hfv⟩ : ∃ fv, fv = errV (plf K B S st ra tn tz tu W H zs) := ⟨_, rfl⟩
  rw [← hfv] at K2
  clear hT hu hZ hf hev hfv
  go_enter Tryd.func3, Tryd.ntmps3
  go_upto_region 1 with fail
  obtain ⟨hr1, hr2, hb2⟩ := two_new w 24 26 (rulP K B S st ra ta tn tc tu) (boxP W H a n c)
  have HU : Hid (Row ((w.alloc (.cells #[.int .i64 K, .int .i64 B, .int .i64 S, .int .i64 st, .int .i64 ra, .slice ta tn tc, .string tu] 24)).alloc (.cells #[.int .i64 W, .int .i64 H, .slice a n c] 26)) w.heap.size 24 (rulP K B S st ra ta tn tc tu)) := hr1
  have HP : Hid (Row ((w.alloc (.cells #[.int .i64 K, .int .i64 B, .int .i64 S, .int .i64 st, .int .i64 ra, .slice ta tn tc, .string tu] 24)).alloc (.cells #[.int .i64 W, .int .i64 H, .slice a n c] 26)) (w.heap.size + 1) 26 (boxP W H a n c)) := hr2
  have HB : Hid (Below w.heap.size w ((w.alloc (.cells #[.int .i64 K, .int .i64 B, .int .i64 S, .int .i64 st, .int .i64 ra, .slice ta tn tc, .string tu] 24)).alloc (.cells #[.int .i64 W, .int .i64 H, .slice a n c] 26))) := hb2
  clear hr1 hr2 hb2
  generalize (w.alloc (.cells #[.int .i64 K, .int .i64 B, .int .i64 S, .int .i64 st, .int .i64 ra, .slice ta tn tc, .string tu] 24)).alloc (.cells #[.int .i64 W, .int .i64 H, .slice a n c] 26) = w0 at *
  obtain ⟨ub, hub⟩ : ∃ ub, ub = w.heap.size := ⟨_, rfl⟩
  rw [← hub] at HU HP ⊢
  obtain ⟨pb, hpb⟩ : ∃ pb, pb = ub + 1 := ⟨_, rfl⟩
  rw [← hpb] at HP ⊢
  clear hub hpb
  go_wp2_with fail
  refine (K0.out w0).mono ?_
  rintro e1 w1 ⟨rfl, hb1⟩
  have HU := Lib.hid (HU.out.keep hb1 HU.out.lt)
  have HP := Lib.hid (HP.out.keep hb1 HP.out.lt)
  have HB := Lib.hid (HB.out.trans (hb1.mono HB.out.size))
  clear hb1
  have l0 := row_range HP.out
  go_wp2_with (first | (refine wpList_load_mid rfl 26 _ rfl pb 0 rfl _ _ l0 Tryd.underlying26 rfl infoPat ?_))
  refine (K1.out w1 HB.out).mono ?_
  rintro e2 w2 ⟨rfl, hb2⟩
  clear l0
  have HU := Lib.hid (HU.out.keep hb2 HU.out.lt)
  have HP := Lib.hid (HP.out.keep hb2 HP.out.lt)
  have HB := Lib.hid (HB.out.trans (hb2.mono HB.out.size))
  clear hb2
  go_upto_region 5 with fail
  have hrx : Row (w2.alloc (.cells #[.int .i64 0, .int .i64 0, .slice none 0 0] 26)) w2.heap.size 26 (noPat) := row_alloc w2 _ _
  have hbx : Below w2.heap.size w2 (w2.alloc (.cells #[.int .i64 0, .int .i64 0, .slice none 0 0] 26)) := (Below.refl _ _).alloc (Nat.le_refl _) _
  have HU := Lib.hid (HU.out.keep hbx HU.out.lt)
  have HP := Lib.hid (HP.out.keep hbx HP.out.lt)
  have HB := Lib.hid (HB.out.trans (hbx.mono HB.out.size))
  clear hbx
  have HQ := Lib.hid hrx
  clear hrx
  generalize w2.alloc (.cells #[.int .i64 0, .int .i64 0, .slice none 0 0] 26) = w3 at *
  obtain ⟨qb, hqb⟩ : ∃ qb, qb = w2.heap.size := ⟨_, rfl⟩
  rw [← hqb] at HQ ⊢
  clear hqb
  have l0 := row_range HU.out
  have l1 := row_range HP.out
  go_wp2_with (first | (refine wpList_load_mid rfl 24 _ rfl ub 0 rfl _ _ l0 Tryd.underlying24 rfl infoRule ?_) | (refine wpList_load_mid rfl 26 _ rfl pb 0 rfl _ _ l1 Tryd.underlying26 rfl infoPat ?_))
  refine (K2.out w3 HB.out).mono ?_
  rintro e4 w4 ⟨⟨W2, H2, a2, n2, c2, rfl⟩, hb4⟩
  clear l0 l1
  have HU := Lib.hid (HU.out.keep hb4 HU.out.lt)
  have HP := Lib.hid (HP.out.keep hb4 HP.out.lt)
  have HQ := Lib.hid (HQ.out.keep hb4 HQ.out.lt)
  have HB := Lib.hid (HB.out.trans (hb4.mono HB.out.size))
  clear hb4
  go_upto_region 6 with fail
  have hrx : Row (w4.alloc (.cells #[.int .i64 W2, .int .i64 H2, .slice a2 n2 c2] 26)) w4.heap.size 26 (boxP W2 H2 a2 n2 c2) := row_alloc w4 _ _
  have hbx : Below w4.heap.size w4 (w4.alloc (.cells #[.int .i64 W2, .int .i64 H2, .slice a2 n2 c2] 26)) := (Below.refl _ _).alloc (Nat.le_refl _) _
  have HU := Lib.hid (HU.out.keep hbx HU.out.lt)
  have HP := Lib.hid (HP.out.keep hbx HP.out.lt)
  have HQ := Lib.hid (HQ.out.keep hbx HQ.out.lt)
  have HB := Lib.hid (HB.out.trans (hbx.mono HB.out.size))
  clear hbx
  have HA := Lib.hid hrx
  clear hrx
  generalize w4.alloc (.cells #[.int .i64 W2, .int .i64 H2, .slice a2 n2 c2] 26) = w5 at *
  obtain ⟨ab, hab⟩ : ∃ ab, ab = w4.heap.size := ⟨_, rfl⟩
  rw [← hab] at HA ⊢
  clear hab
  go_wp2_with fail
  go_ret
  exact ⟨rfl, HB.out⟩
set_option maxHeartbeats 16000000 in
set_option maxRecDepth 1000000 in
theorem planeTurns_bad2 (K B S st ra : Int) (ta : Option Addr) (tn tc : Nat) (tz : List Int) (tu : ByteArray) (W H k : Nat) (a : Option Addr) (n c : Nat) (f : Nat → Nat → Nat) (w : World) (hT : Ints.Is w ta tn tz) (hu : tu.size ≤ 9223372036854775807) (hZ : Ints.Is w a n (flat W H f)) (hn : n = W * H) (hW : W ≤ 100) (hH : H ≤ 100) (hk : k < 8) (hp : pfault W H (flat W H f) = 0) (hf : plf K B S st ra tn tz tu W H (flat W H f) ≠ 0) :
    Calls Tryd.prog 3 #[.agg #[.int .i64 K, .int .i64 B, .int .i64 S, .int .i64 st, .int .i64 ra, .slice ta tn tc, .string tu], .agg #[.int .i64 W, .int .i64 H, .slice a n c], .int .i64 k] w fun e w' => e = .returned (.bool true) ∧ Below w.heap.size w w' := by
  have K0 := Lib.hid (fun w2 => lives_any w2)
  have K1 := Lib.hid (fun w2 (h : Below w.heap.size w w2) => Turn_ok W H k a n c f w2 (hZ.keep h) hn (by omega) (by omega) hk hp)
  have K2 := Lib.hid (fun w2 (h : Below w.heap.size w w2) => Torus_bad K B S st ra ta tn tc tz tu W H a n c (flat W H f) w2 (hT.keep h) hu (hZ.keep h) hf)
  have hev := errV_some hf
  rw [hev] at K2
  generalize plf K B S st ra tn tz tu W H (flat W H f) = ev at *
  clear hT hu hZ hf hev hn hW hH hk hp
  go_enter Tryd.func3, Tryd.ntmps3
  go_upto_region 1 with fail
  obtain ⟨hr1, hr2, hb2⟩ := two_new w 24 26 (rulP K B S st ra ta tn tc tu) (boxP W H a n c)
  have HU : Hid (Row ((w.alloc (.cells #[.int .i64 K, .int .i64 B, .int .i64 S, .int .i64 st, .int .i64 ra, .slice ta tn tc, .string tu] 24)).alloc (.cells #[.int .i64 W, .int .i64 H, .slice a n c] 26)) w.heap.size 24 (rulP K B S st ra ta tn tc tu)) := hr1
  have HP : Hid (Row ((w.alloc (.cells #[.int .i64 K, .int .i64 B, .int .i64 S, .int .i64 st, .int .i64 ra, .slice ta tn tc, .string tu] 24)).alloc (.cells #[.int .i64 W, .int .i64 H, .slice a n c] 26)) (w.heap.size + 1) 26 (boxP W H a n c)) := hr2
  have HB : Hid (Below w.heap.size w ((w.alloc (.cells #[.int .i64 K, .int .i64 B, .int .i64 S, .int .i64 st, .int .i64 ra, .slice ta tn tc, .string tu] 24)).alloc (.cells #[.int .i64 W, .int .i64 H, .slice a n c] 26))) := hb2
  clear hr1 hr2 hb2
  generalize (w.alloc (.cells #[.int .i64 K, .int .i64 B, .int .i64 S, .int .i64 st, .int .i64 ra, .slice ta tn tc, .string tu] 24)).alloc (.cells #[.int .i64 W, .int .i64 H, .slice a n c] 26) = w0 at *
  obtain ⟨ub, hub⟩ : ∃ ub, ub = w.heap.size := ⟨_, rfl⟩
  rw [← hub] at HU HP ⊢
  obtain ⟨pb, hpb⟩ : ∃ pb, pb = ub + 1 := ⟨_, rfl⟩
  rw [← hpb] at HP ⊢
  clear hub hpb
  go_wp2_with fail
  refine (K0.out w0).mono ?_
  rintro e1 w1 ⟨rfl, hb1⟩
  have HU := Lib.hid (HU.out.keep hb1 HU.out.lt)
  have HP := Lib.hid (HP.out.keep hb1 HP.out.lt)
  have HB := Lib.hid (HB.out.trans (hb1.mono HB.out.size))
  clear hb1
  have l0 := row_range HP.out
  go_wp2_with (first | (refine wpList_load_mid rfl 26 _ rfl pb 0 rfl _ _ l0 Tryd.underlying26 rfl infoPat ?_))
  refine (K1.out w1 HB.out).mono ?_
  rintro e2 w2 ⟨⟨a1, c1, rfl, _⟩, hb2⟩
  clear l0
  have HU := Lib.hid (HU.out.keep hb2 HU.out.lt)
  have HP := Lib.hid (HP.out.keep hb2 HP.out.lt)
  have HB := Lib.hid (HB.out.trans (hb2.mono HB.out.size))
  clear hb2
  generalize qW W H (k % 4) = W1
  generalize qH W H (k % 4) = H1
  go_upto_region 5 with fail
  have hrx : Row (w2.alloc (.cells #[.int .i64 (W1 : Nat), .int .i64 (H1 : Nat), .slice a1 n c1] 26)) w2.heap.size 26 (boxP W1 H1 a1 n c1) := row_alloc w2 _ _
  have hbx : Below w2.heap.size w2 (w2.alloc (.cells #[.int .i64 (W1 : Nat), .int .i64 (H1 : Nat), .slice a1 n c1] 26)) := (Below.refl _ _).alloc (Nat.le_refl _) _
  have HU := Lib.hid (HU.out.keep hbx HU.out.lt)
  have HP := Lib.hid (HP.out.keep hbx HP.out.lt)
  have HB := Lib.hid (HB.out.trans (hbx.mono HB.out.size))
  clear hbx
  have HQ := Lib.hid hrx
  clear hrx
  generalize w2.alloc (.cells #[.int .i64 (W1 : Nat), .int .i64 (H1 : Nat), .slice a1 n c1] 26) = w3 at *
  obtain ⟨qb, hqb⟩ : ∃ qb, qb = w2.heap.size := ⟨_, rfl⟩
  rw [← hqb] at HQ ⊢
  clear hqb
  have l0 := row_range HU.out
  have l1 := row_range HP.out
  go_wp2_with (first | (refine wpList_load_mid rfl 24 _ rfl ub 0 rfl _ _ l0 Tryd.underlying24 rfl infoRule ?_) | (refine wpList_load_mid rfl 26 _ rfl pb 0 rfl _ _ l1 Tryd.underlying26 rfl infoPat ?_))
  refine (K2.out w3 HB.out).mono ?_
  rintro e4 w4 ⟨rfl, hb4⟩
  clear l0 l1
  have HU := Lib.hid (HU.out.keep hb4 HU.out.lt)
  have HP := Lib.hid (HP.out.keep hb4 HP.out.lt)
  have HQ := Lib.hid (HQ.out.keep hb4 HQ.out.lt)
  have HB := Lib.hid (HB.out.trans (hb4.mono HB.out.size))
  clear hb4
  go_upto_region 6 with fail
  have hrx : Row (w4.alloc (.cells #[.int .i64 0, .int .i64 0, .slice none 0 0] 26)) w4.heap.size 26 (noPat) := row_alloc w4 _ _
  have hbx : Below w4.heap.size w4 (w4.alloc (.cells #[.int .i64 0, .int .i64 0, .slice none 0 0] 26)) := (Below.refl _ _).alloc (Nat.le_refl _) _
  have HU := Lib.hid (HU.out.keep hbx HU.out.lt)
  have HP := Lib.hid (HP.out.keep hbx HP.out.lt)
  have HQ := Lib.hid (HQ.out.keep hbx HQ.out.lt)
  have HB := Lib.hid (HB.out.trans (hbx.mono HB.out.size))
  clear hbx
  have HA := Lib.hid hrx
  clear hrx
  generalize w4.alloc (.cells #[.int .i64 0, .int .i64 0, .slice none 0 0] 26) = w5 at *
  obtain ⟨ab, hab⟩ : ∃ ab, ab = w4.heap.size := ⟨_, rfl⟩
  rw [← hab] at HA ⊢
  clear hab
  go_wp2_with fail
  go_ret
  exact ⟨rfl, HB.out⟩
theorem wrap_sum (x y : Int) : wrap64 (wrap64 x + wrap64 y) = wrap64 (x + y) := by unfold wrap64; omega
set_option maxHeartbeats 16000000 in
set_option maxRecDepth 1000000 in
theorem planeTurns_ok (st ra : Int) (K B S : Nat) (ta : Option Addr) (tn tc : Nat) (tz : List Int) (tu : ByteArray) (W H k : Nat) (a : Option Addr) (n c : Nat) (f : Nat → Nat → Nat) (w : World) (hBS : B < 512) (hSS : S < 512) (hT : Ints.Is w ta tn tz) (hu : tu.size ≤ 9223372036854775807) (hZ : Ints.Is w a n (flat W H f)) (hn : n = W * H) (hc : n ≤ c) (hW : W ≤ 100) (hH : H ≤ 100) (hk : k < 8) (hlt : ∀ x y, f x y < 2) (hf : plf K B S st ra tn tz tu W H (flat W H f) = 0) :
    Calls Tryd.prog 3 #[.agg #[.int .i64 K, .int .i64 B, .int .i64 S, .int .i64 st, .int .i64 ra, .slice ta tn tc, .string tu], .agg #[.int .i64 W, .int .i64 H, .slice a n c], .int .i64 k] w fun e w' => e = .returned (.bool true) ∧ Below w.heap.size w w' := by
  have hp := (plf_zero hf).2.2
  have hn2 : n ≤ 40000 := by rw [hn]; exact Nat.le_trans (Nat.mul_le_mul hW hH) (by decide)
  obtain ⟨W1, hW1⟩ : ∃ W1, W1 = qW W H (k % 4) := ⟨_, rfl⟩
  obtain ⟨H1, hH1⟩ : ∃ H1, H1 = qH W H (k % 4) := ⟨_, rfl⟩
  obtain ⟨F1, hF1⟩ : ∃ F1, F1 = tF W H f k := ⟨_, rfl⟩
  have hF1l : ∀ x y, F1 x y < 2 := by rw [hF1]; exact tF_lt hlt
  have hle := q_le hW hH (k % 4)
  rw [← hW1, ← hH1] at hle
  have hn1 : n = W1 * H1 := by rw [hW1, hH1, q_mul]; exact hn
  have hp1 : plf K B S st ra tn tz tu W1 H1 (flat W1 H1 F1) = 0 := plf_same hf (pfault_flat hle.1 hle.2 hF1l)
  obtain ⟨T, hTe⟩ : ∃ T, T = tor B S W H f := ⟨_, rfl⟩
  have hTl : ∀ x y, T x y < 2 := by rw [hTe]; exact fun x y => tor_lt _ _ _ _ _ _ _
  have K0 := Lib.hid (fun w2 => lives_any w2)
  have K1 := Lib.hid (fun w2 (h : Below w.heap.size w w2) => Turn_ok W H k a n c f w2 (hZ.keep h) hn (by omega) (by omega) hk hp)
  have K2 := Lib.hid (fun w2 (h : Below w.heap.size w w2) => Torus_ok K st ra B S ta tn tc tz tu W H a n c f w2 hBS hSS (hT.keep h) hu (hZ.keep h) hn (by omega) (by omega) hlt hf)
  have K3 := Lib.hid (fun a1 c1 w2 (h : Below w.heap.size w w2) (hi : Ints.Is w2 a1 n (flat W1 H1 F1)) => Torus_ok K st ra B S ta tn tc tz tu W1 H1 a1 n c1 F1 w2 hBS hSS (hT.keep h) hu hi hn1 (by omega) (by omega) hF1l hp1)
  have K4 := Lib.hid (fun g w2 (hi : Ints.Is w2 (some ⟨g, 0, none⟩) n (flat W H T)) => Turn_ok W H k (some ⟨g, 0, none⟩) n n T w2 hi hn (by omega) (by omega) hk (pfault_flat hW hH hTl))
  have K5 := Lib.hid (fun (a1 a2 : Option Addr) (c1 c2 : Nat) (zs : List Int) w2 (h1 : Ints.Is w2 a1 n zs) (h2 : Ints.Is w2 a2 n zs) => alike_same W1 H1 a1 n c1 a2 c2 zs w2 h1 h2)
  have K6 : Hid (B % 2 = 0 → ∀ w2, Below w.heap.size w w2 → _) := Lib.hid (fun hB w2 (h : Below w.heap.size w w2) => again_ok K st ra B S ta tn tc tz tu W H a n c f 16 w2 hBS hSS hB (hT.keep h) hu (hZ.keep h) hn hc hW hH hlt hf (by decide) (by decide))
  have K7 : Hid (B % 2 = 0 → ∀ a1 c1 w2, Below w.heap.size w w2 → Ints.Is w2 a1 n (flat W1 H1 F1) → n ≤ c1 → _) := Lib.hid (fun hB a1 c1 w2 (h : Below w.heap.size w w2) (hi : Ints.Is w2 a1 n (flat W1 H1 F1)) (hc1 : n ≤ c1) => again_ok K st ra B S ta tn tc tz tu W1 H1 a1 n c1 F1 16 w2 hBS hSS hB (hT.keep h) hu hi hn1 hc1 hle.1 hle.2 hF1l hp1 (by decide) (by decide))
  have hb16 : B % 2 = 1 → ∀ {W' H' : Nat} {zs : List Int}, plf K B S st ra tn tz tu W' H' zs = 0 → afl K B S st ra tn tz tu W' H' zs 16 = 1 := fun hB W' H' zs h => by
    unfold afl
    rw [if_neg (fun x => x h), if_pos (.inl (by omega))]
  have K8 : Hid (B % 2 = 1 → ∀ w2, Below w.heap.size w w2 → _) := Lib.hid (fun hB w2 (h : Below w.heap.size w w2) => again_bad K B S st ra ta tn tc tz tu W H a n c (flat W H f) 16 w2 (hT.keep h) hu (hZ.keep h) (by rw [hb16 hB hf]; decide))
  have K9 : Hid (B % 2 = 1 → ∀ a1 c1 w2, Below w.heap.size w w2 → Ints.Is w2 a1 n (flat W1 H1 F1) → _) := Lib.hid (fun hB a1 c1 w2 (h : Below w.heap.size w w2) (hi : Ints.Is w2 a1 n (flat W1 H1 F1)) => again_bad K B S st ra ta tn tc tz tu W1 H1 a1 n c1 (flat W1 H1 F1) 16 w2 (hT.keep h) hu hi (by rw [hb16 hB hp1]; decide))
  have HA1 : Hid (B % 2 = 1 → afl K B S st ra tn tz tu W H (flat W H f) 16 = 1 ∧ afl K B S st ra tn tz tu W1 H1 (flat W1 H1 F1) 16 = 1) := Lib.hid (fun hB => ⟨hb16 hB hf, hb16 hB hp1⟩)
  have HLK : Hid (∀ o o', Tells B S (ext W H f) 16 o → Tells B S (ext W1 H1 F1) 16 o' → Like o o') := Lib.hid (fun o o' h1 h2 => by
    obtain ⟨p1, p2, p3, p4, p5, p6, hm, ht⟩ := tw_all (W := W) (H := H) (k := k) (f := f)
    rw [← hW1, ← hH1, ← hF1] at ht
    exact tells_like hm ht (ext_box W1 H1 F1) h1 h2)
  have HFE : Hid (flat W1 H1 (tor B S W1 H1 F1) = flat W1 H1 (tF W H T k)) := Lib.hid (flat_congr fun x y hx hy => by
    rw [hW1] at hx
    rw [hH1] at hy
    rw [hW1, hH1, hF1]
    exact tor_all (f := f) (g := T) (fun x y _ _ => by rw [hTe]) hx hy)
  rw [← hW1, ← hH1, ← hF1] at K1
  rw [← hW1, ← hH1] at K4
  rw [← hTe] at K2
  have HN : Hid (n = W * H ∧ n = W1 * H1 ∧ n ≤ maxLen) := Lib.hid ⟨hn, hn1, by unfold maxLen; omega⟩
  clear hT hu hZ hf hn hW hH hk hp hn2 hW1 hH1 hF1 hF1l hle hn1 hp1 hTe hTl hb16 hBS hSS hc hlt
  go_enter Tryd.func3, Tryd.ntmps3
  go_upto_region 1 with fail
  obtain ⟨hr1, hr2, hb2⟩ := two_new w 24 26 (rulP K B S st ra ta tn tc tu) (boxP W H a n c)
  have HU : Hid (Row ((w.alloc (.cells #[.int .i64 K, .int .i64 B, .int .i64 S, .int .i64 st, .int .i64 ra, .slice ta tn tc, .string tu] 24)).alloc (.cells #[.int .i64 W, .int .i64 H, .slice a n c] 26)) w.heap.size 24 (rulP K B S st ra ta tn tc tu)) := hr1
  have HP : Hid (Row ((w.alloc (.cells #[.int .i64 K, .int .i64 B, .int .i64 S, .int .i64 st, .int .i64 ra, .slice ta tn tc, .string tu] 24)).alloc (.cells #[.int .i64 W, .int .i64 H, .slice a n c] 26)) (w.heap.size + 1) 26 (boxP W H a n c)) := hr2
  have HB : Hid (Below w.heap.size w ((w.alloc (.cells #[.int .i64 K, .int .i64 B, .int .i64 S, .int .i64 st, .int .i64 ra, .slice ta tn tc, .string tu] 24)).alloc (.cells #[.int .i64 W, .int .i64 H, .slice a n c] 26))) := hb2
  clear hr1 hr2 hb2
  generalize (w.alloc (.cells #[.int .i64 K, .int .i64 B, .int .i64 S, .int .i64 st, .int .i64 ra, .slice ta tn tc, .string tu] 24)).alloc (.cells #[.int .i64 W, .int .i64 H, .slice a n c] 26) = w0 at *
  obtain ⟨ub, hub⟩ : ∃ ub, ub = w.heap.size := ⟨_, rfl⟩
  rw [← hub] at HU HP ⊢
  obtain ⟨pb, hpb⟩ : ∃ pb, pb = ub + 1 := ⟨_, rfl⟩
  rw [← hpb] at HP ⊢
  clear hub hpb
  go_wp2_with fail
  refine (K0.out w0).mono ?_
  rintro e1 w1 ⟨rfl, hb1⟩
  have HU := Lib.hid (HU.out.keep hb1 HU.out.lt)
  have HP := Lib.hid (HP.out.keep hb1 HP.out.lt)
  have HB := Lib.hid (HB.out.trans (hb1.mono HB.out.size))
  clear hb1
  have l0 := row_range HP.out
  go_wp2_with (first | (refine wpList_load_mid rfl 26 _ rfl pb 0 rfl _ _ l0 Tryd.underlying26 rfl infoPat ?_))
  refine (K1.out w1 HB.out).mono ?_
  rintro e2 w2 ⟨⟨a1, c1, rfl, hc1, _, hi1, _⟩, hb2⟩
  clear l0
  have HU := Lib.hid (HU.out.keep hb2 HU.out.lt)
  have HP := Lib.hid (HP.out.keep hb2 HP.out.lt)
  have HB := Lib.hid (HB.out.trans (hb2.mono HB.out.size))
  clear hb2
  have HI1 := Lib.hid hi1
  have HC1 := Lib.hid hc1
  clear hi1 hc1
  go_upto_region 5 with fail
  have hrx : Row (w2.alloc (.cells #[.int .i64 (W1 : Nat), .int .i64 (H1 : Nat), .slice a1 n c1] 26)) w2.heap.size 26 (boxP W1 H1 a1 n c1) := row_alloc w2 _ _
  have hbx : Below w2.heap.size w2 (w2.alloc (.cells #[.int .i64 (W1 : Nat), .int .i64 (H1 : Nat), .slice a1 n c1] 26)) := (Below.refl _ _).alloc (Nat.le_refl _) _
  have HU := Lib.hid (HU.out.keep hbx HU.out.lt)
  have HP := Lib.hid (HP.out.keep hbx HP.out.lt)
  have HI1 := Lib.hid (HI1.out.keep hbx)
  have HB := Lib.hid (HB.out.trans (hbx.mono HB.out.size))
  clear hbx
  have HQ := Lib.hid hrx
  clear hrx
  generalize w2.alloc (.cells #[.int .i64 (W1 : Nat), .int .i64 (H1 : Nat), .slice a1 n c1] 26) = w3 at *
  obtain ⟨qb, hqb⟩ : ∃ qb, qb = w2.heap.size := ⟨_, rfl⟩
  rw [← hqb] at HQ ⊢
  clear hqb
  have l0 := row_range HU.out
  have l1 := row_range HP.out
  go_wp2_with (first | (refine wpList_load_mid rfl 24 _ rfl ub 0 rfl _ _ l0 Tryd.underlying24 rfl infoRule ?_) | (refine wpList_load_mid rfl 26 _ rfl pb 0 rfl _ _ l1 Tryd.underlying26 rfl infoPat ?_))
  refine (K2.out w3 HB.out).mono ?_
  rintro e4 w4 ⟨⟨ga, rfl, _, hva⟩, hb4⟩
  clear l0 l1
  have HU := Lib.hid (HU.out.keep hb4 HU.out.lt)
  have HP := Lib.hid (HP.out.keep hb4 HP.out.lt)
  have HQ := Lib.hid (HQ.out.keep hb4 HQ.out.lt)
  have HI1 := Lib.hid (HI1.out.keep hb4)
  have HB := Lib.hid (HB.out.trans (hb4.mono HB.out.size))
  clear hb4
  have HVA := Lib.hid (hva.flat HN.out.1 HN.out.2.2)
  clear hva
  go_upto_region 6 with fail
  have hrx : Row (w4.alloc (.cells #[.int .i64 W, .int .i64 H, .slice (some ⟨ga, 0, none⟩) n n] 26)) w4.heap.size 26 (boxP W H (some ⟨ga, 0, none⟩) n n) := row_alloc w4 _ _
  have hbx : Below w4.heap.size w4 (w4.alloc (.cells #[.int .i64 W, .int .i64 H, .slice (some ⟨ga, 0, none⟩) n n] 26)) := (Below.refl _ _).alloc (Nat.le_refl _) _
  have HU := Lib.hid (HU.out.keep hbx HU.out.lt)
  have HP := Lib.hid (HP.out.keep hbx HP.out.lt)
  have HQ := Lib.hid (HQ.out.keep hbx HQ.out.lt)
  have HI1 := Lib.hid (HI1.out.keep hbx)
  have HVA := Lib.hid (HVA.out.keep hbx)
  have HB := Lib.hid (HB.out.trans (hbx.mono HB.out.size))
  clear hbx
  have HA := Lib.hid hrx
  clear hrx
  generalize w4.alloc (.cells #[.int .i64 W, .int .i64 H, .slice (some ⟨ga, 0, none⟩) n n] 26) = w5 at *
  obtain ⟨ab, hab⟩ : ∃ ab, ab = w4.heap.size := ⟨_, rfl⟩
  rw [← hab] at HA ⊢
  clear hab
  have l0 := row_range HU.out
  have l1 := row_range HQ.out
  go_wp2_with (first | (refine wpList_load_mid rfl 24 _ rfl ub 0 rfl _ _ l0 Tryd.underlying24 rfl infoRule ?_) | (refine wpList_load_mid rfl 26 _ rfl qb 0 rfl _ _ l1 Tryd.underlying26 rfl infoPat ?_))
  refine (K3.out a1 c1 w5 HB.out HI1.out).mono ?_
  rintro e6 w6 ⟨⟨gb, rfl, _, hvb⟩, hb6⟩
  clear l0 l1
  have HU := Lib.hid (HU.out.keep hb6 HU.out.lt)
  have HP := Lib.hid (HP.out.keep hb6 HP.out.lt)
  have HQ := Lib.hid (HQ.out.keep hb6 HQ.out.lt)
  have HA := Lib.hid (HA.out.keep hb6 HA.out.lt)
  have HI1 := Lib.hid (HI1.out.keep hb6)
  have HVA := Lib.hid (HVA.out.keep hb6)
  have HB := Lib.hid (HB.out.trans (hb6.mono HB.out.size))
  clear hb6
  have HVB := Lib.hid (hvb.flat HN.out.2.1 HN.out.2.2)
  rw [HFE.out] at HVB
  clear hvb
  go_upto_region 9 with fail
  have hrx : Row (w6.alloc (.cells #[.int .i64 (W1 : Nat), .int .i64 (H1 : Nat), .slice (some ⟨gb, 0, none⟩) n n] 26)) w6.heap.size 26 (boxP W1 H1 (some ⟨gb, 0, none⟩) n n) := row_alloc w6 _ _
  have hbx : Below w6.heap.size w6 (w6.alloc (.cells #[.int .i64 (W1 : Nat), .int .i64 (H1 : Nat), .slice (some ⟨gb, 0, none⟩) n n] 26)) := (Below.refl _ _).alloc (Nat.le_refl _) _
  have HU := Lib.hid (HU.out.keep hbx HU.out.lt)
  have HP := Lib.hid (HP.out.keep hbx HP.out.lt)
  have HQ := Lib.hid (HQ.out.keep hbx HQ.out.lt)
  have HA := Lib.hid (HA.out.keep hbx HA.out.lt)
  have HI1 := Lib.hid (HI1.out.keep hbx)
  have HVA := Lib.hid (HVA.out.keep hbx)
  have HVB := Lib.hid (HVB.out.keep hbx)
  have HB := Lib.hid (HB.out.trans (hbx.mono HB.out.size))
  clear hbx
  have HBB := Lib.hid hrx
  clear hrx
  generalize w6.alloc (.cells #[.int .i64 (W1 : Nat), .int .i64 (H1 : Nat), .slice (some ⟨gb, 0, none⟩) n n] 26) = w7 at *
  obtain ⟨bb, hbb⟩ : ∃ bb, bb = w6.heap.size := ⟨_, rfl⟩
  rw [← hbb] at HBB ⊢
  clear hbb
  have l0 := row_range HA.out
  go_wp2_with (first | (refine wpList_load_mid rfl 26 _ rfl ab 0 rfl _ _ l0 Tryd.underlying26 rfl infoPat ?_))
  refine (K4.out ga w7 HVA.out).mono ?_
  rintro e8 w8 ⟨⟨a2, c2, rfl, _, _, hi2, _⟩, hb8⟩
  clear l0
  have HU := Lib.hid (HU.out.keep hb8 HU.out.lt)
  have HP := Lib.hid (HP.out.keep hb8 HP.out.lt)
  have HQ := Lib.hid (HQ.out.keep hb8 HQ.out.lt)
  have HA := Lib.hid (HA.out.keep hb8 HA.out.lt)
  have HBB := Lib.hid (HBB.out.keep hb8 HBB.out.lt)
  have HI1 := Lib.hid (HI1.out.keep hb8)
  have HVA := Lib.hid (HVA.out.keep hb8)
  have HVB := Lib.hid (HVB.out.keep hb8)
  have HB := Lib.hid (HB.out.trans (hb8.mono HB.out.size))
  clear hb8
  have HI2 := Lib.hid hi2
  clear hi2
  go_upto_region 10 with fail
  have hrx : Row (w8.alloc (.cells #[.int .i64 (W1 : Nat), .int .i64 (H1 : Nat), .slice a2 n c2] 26)) w8.heap.size 26 (boxP W1 H1 a2 n c2) := row_alloc w8 _ _
  have hbx : Below w8.heap.size w8 (w8.alloc (.cells #[.int .i64 (W1 : Nat), .int .i64 (H1 : Nat), .slice a2 n c2] 26)) := (Below.refl _ _).alloc (Nat.le_refl _) _
  have HU := Lib.hid (HU.out.keep hbx HU.out.lt)
  have HP := Lib.hid (HP.out.keep hbx HP.out.lt)
  have HQ := Lib.hid (HQ.out.keep hbx HQ.out.lt)
  have HA := Lib.hid (HA.out.keep hbx HA.out.lt)
  have HBB := Lib.hid (HBB.out.keep hbx HBB.out.lt)
  have HI1 := Lib.hid (HI1.out.keep hbx)
  have HVA := Lib.hid (HVA.out.keep hbx)
  have HVB := Lib.hid (HVB.out.keep hbx)
  have HI2 := Lib.hid (HI2.out.keep hbx)
  have HB := Lib.hid (HB.out.trans (hbx.mono HB.out.size))
  clear hbx
  have HCC := Lib.hid hrx
  clear hrx
  generalize w8.alloc (.cells #[.int .i64 (W1 : Nat), .int .i64 (H1 : Nat), .slice a2 n c2] 26) = w9 at *
  obtain ⟨cb, hcb⟩ : ∃ cb, cb = w8.heap.size := ⟨_, rfl⟩
  rw [← hcb] at HCC ⊢
  clear hcb
  have l0 := row_range HBB.out
  have l1 := row_range HCC.out
  go_wp2_with (first | (refine wpList_load_mid rfl 26 _ rfl bb 0 rfl _ _ l0 Tryd.underlying26 rfl infoPat ?_) | (refine wpList_load_mid rfl 26 _ rfl cb 0 rfl _ _ l1 Tryd.underlying26 rfl infoPat ?_))
  refine (K5.out _ _ _ _ _ w9 HVB.out HI2.out).mono ?_
  rintro e10 w10 ⟨rfl, hb10⟩
  clear l0 l1
  have HU := Lib.hid (HU.out.keep hb10 HU.out.lt)
  have HP := Lib.hid (HP.out.keep hb10 HP.out.lt)
  have HQ := Lib.hid (HQ.out.keep hb10 HQ.out.lt)
  have HA := Lib.hid (HA.out.keep hb10 HA.out.lt)
  have HBB := Lib.hid (HBB.out.keep hb10 HBB.out.lt)
  have HCC := Lib.hid (HCC.out.keep hb10 HCC.out.lt)
  have HI1 := Lib.hid (HI1.out.keep hb10)
  have HVA := Lib.hid (HVA.out.keep hb10)
  have HVB := Lib.hid (HVB.out.keep hb10)
  have HI2 := Lib.hid (HI2.out.keep hb10)
  have HB := Lib.hid (HB.out.trans (hb10.mono HB.out.size))
  clear hb10
  clear K0 K1 K2 K3 K4 K5
  go_upto_region 13 with fail
  rcases Nat.mod_two_eq_zero_or_one B with hB | hB
  · have K6 := Lib.hid (K6.out hB)
    have K7 := Lib.hid (K7.out hB)
    clear K8 K9 HA1
    have l0 := row_range HU.out
    have l1 := row_range HP.out
    go_wp2_with (first | (refine wpList_load_mid rfl 24 _ rfl ub 0 rfl _ _ l0 Tryd.underlying24 rfl infoRule ?_) | (refine wpList_load_mid rfl 26 _ rfl pb 0 rfl _ _ l1 Tryd.underlying26 rfl infoPat ?_))
    refine (K6.out w10 HB.out).mono ?_
    rintro e11 w11 ⟨⟨o1, rfl, ht1⟩, hb11⟩
    clear l0 l1
    have HU := Lib.hid (HU.out.keep hb11 HU.out.lt)
    have HP := Lib.hid (HP.out.keep hb11 HP.out.lt)
    have HQ := Lib.hid (HQ.out.keep hb11 HQ.out.lt)
    have HA := Lib.hid (HA.out.keep hb11 HA.out.lt)
    have HBB := Lib.hid (HBB.out.keep hb11 HBB.out.lt)
    have HCC := Lib.hid (HCC.out.keep hb11 HCC.out.lt)
    have HI1 := Lib.hid (HI1.out.keep hb11)
    have HVA := Lib.hid (HVA.out.keep hb11)
    have HVB := Lib.hid (HVB.out.keep hb11)
    have HI2 := Lib.hid (HI2.out.keep hb11)
    have HB := Lib.hid (HB.out.trans (hb11.mono HB.out.size))
    clear hb11
    have HT1 := Lib.hid ht1
    clear ht1
    cases o1 with
    | full =>
      unfold againV
      rw [errV_some (show (4 : Int) ≠ 0 by decide)]
      go_upto_region 14 with fail
      have hrx : Row (w11.alloc (.cells #[.int .i64 0, .int .i64 0, .int .i64 0] 35)) w11.heap.size 35 (z3) := row_alloc w11 _ _
      have hbx : Below w11.heap.size w11 (w11.alloc (.cells #[.int .i64 0, .int .i64 0, .int .i64 0] 35)) := (Below.refl _ _).alloc (Nat.le_refl _) _
      have HU := Lib.hid (HU.out.keep hbx HU.out.lt)
      have HP := Lib.hid (HP.out.keep hbx HP.out.lt)
      have HQ := Lib.hid (HQ.out.keep hbx HQ.out.lt)
      have HA := Lib.hid (HA.out.keep hbx HA.out.lt)
      have HBB := Lib.hid (HBB.out.keep hbx HBB.out.lt)
      have HCC := Lib.hid (HCC.out.keep hbx HCC.out.lt)
      have HI1 := Lib.hid (HI1.out.keep hbx)
      have HVA := Lib.hid (HVA.out.keep hbx)
      have HVB := Lib.hid (HVB.out.keep hbx)
      have HI2 := Lib.hid (HI2.out.keep hbx)
      have HB := Lib.hid (HB.out.trans (hbx.mono HB.out.size))
      clear hbx
      have HX := Lib.hid hrx
      clear hrx
      generalize w11.alloc (.cells #[.int .i64 0, .int .i64 0, .int .i64 0] 35) = w12 at *
      obtain ⟨xb, hxb⟩ : ∃ xb, xb = w11.heap.size := ⟨_, rfl⟩
      rw [← hxb] at HX ⊢
      clear hxb
      have l0 := row_range HU.out
      have l1 := row_range HQ.out
      go_wp2_with (first | (refine wpList_load_mid rfl 24 _ rfl ub 0 rfl _ _ l0 Tryd.underlying24 rfl infoRule ?_) | (refine wpList_load_mid rfl 26 _ rfl qb 0 rfl _ _ l1 Tryd.underlying26 rfl infoPat ?_))
      refine (K7.out a1 c1 w12 HB.out HI1.out HC1.out).mono ?_
      rintro e13 w13 ⟨⟨o2, rfl, ht2⟩, hb13⟩
      clear l0 l1
      have HU := Lib.hid (HU.out.keep hb13 HU.out.lt)
      have HP := Lib.hid (HP.out.keep hb13 HP.out.lt)
      have HQ := Lib.hid (HQ.out.keep hb13 HQ.out.lt)
      have HA := Lib.hid (HA.out.keep hb13 HA.out.lt)
      have HBB := Lib.hid (HBB.out.keep hb13 HBB.out.lt)
      have HCC := Lib.hid (HCC.out.keep hb13 HCC.out.lt)
      have HX := Lib.hid (HX.out.keep hb13 HX.out.lt)
      have HI1 := Lib.hid (HI1.out.keep hb13)
      have HVA := Lib.hid (HVA.out.keep hb13)
      have HVB := Lib.hid (HVB.out.keep hb13)
      have HI2 := Lib.hid (HI2.out.keep hb13)
      have HB := Lib.hid (HB.out.trans (hb13.mono HB.out.size))
      clear hb13
      have HLI := Lib.hid (HLK.out _ _ HT1.out ht2)
      clear ht2 HT1
      cases o2 with
      | full =>
        unfold againV
        rw [errV_some (show (4 : Int) ≠ 0 by decide)]
        go_upto_region 15 with fail
        have hrx : Row (w13.alloc (.cells #[.int .i64 0, .int .i64 0, .int .i64 0] 35)) w13.heap.size 35 (z3) := row_alloc w13 _ _
        have hbx : Below w13.heap.size w13 (w13.alloc (.cells #[.int .i64 0, .int .i64 0, .int .i64 0] 35)) := (Below.refl _ _).alloc (Nat.le_refl _) _
        have HU := Lib.hid (HU.out.keep hbx HU.out.lt)
        have HP := Lib.hid (HP.out.keep hbx HP.out.lt)
        have HQ := Lib.hid (HQ.out.keep hbx HQ.out.lt)
        have HA := Lib.hid (HA.out.keep hbx HA.out.lt)
        have HBB := Lib.hid (HBB.out.keep hbx HBB.out.lt)
        have HCC := Lib.hid (HCC.out.keep hbx HCC.out.lt)
        have HX := Lib.hid (HX.out.keep hbx HX.out.lt)
        have HI1 := Lib.hid (HI1.out.keep hbx)
        have HVA := Lib.hid (HVA.out.keep hbx)
        have HVB := Lib.hid (HVB.out.keep hbx)
        have HI2 := Lib.hid (HI2.out.keep hbx)
        have HB := Lib.hid (HB.out.trans (hbx.mono HB.out.size))
        clear hbx
        have HY := Lib.hid hrx
        clear hrx
        generalize w13.alloc (.cells #[.int .i64 0, .int .i64 0, .int .i64 0] 35) = w14 at *
        obtain ⟨yb, hyb⟩ : ∃ yb, yb = w13.heap.size := ⟨_, rfl⟩
        rw [← hyb] at HY ⊢
        clear hyb
        go_wp2_with fail
        go_ret
        exact ⟨rfl, HB.out⟩
      | none =>
        exact absurd HLI.out id
      | «at» n2 u2 v2 =>
        exact absurd HLI.out id
    | none =>
      unfold againV
      rw [errV_some (show (5 : Int) ≠ 0 by decide)]
      go_upto_region 14 with fail
      have hrx : Row (w11.alloc (.cells #[.int .i64 0, .int .i64 0, .int .i64 0] 35)) w11.heap.size 35 (z3) := row_alloc w11 _ _
      have hbx : Below w11.heap.size w11 (w11.alloc (.cells #[.int .i64 0, .int .i64 0, .int .i64 0] 35)) := (Below.refl _ _).alloc (Nat.le_refl _) _
      have HU := Lib.hid (HU.out.keep hbx HU.out.lt)
      have HP := Lib.hid (HP.out.keep hbx HP.out.lt)
      have HQ := Lib.hid (HQ.out.keep hbx HQ.out.lt)
      have HA := Lib.hid (HA.out.keep hbx HA.out.lt)
      have HBB := Lib.hid (HBB.out.keep hbx HBB.out.lt)
      have HCC := Lib.hid (HCC.out.keep hbx HCC.out.lt)
      have HI1 := Lib.hid (HI1.out.keep hbx)
      have HVA := Lib.hid (HVA.out.keep hbx)
      have HVB := Lib.hid (HVB.out.keep hbx)
      have HI2 := Lib.hid (HI2.out.keep hbx)
      have HB := Lib.hid (HB.out.trans (hbx.mono HB.out.size))
      clear hbx
      have HX := Lib.hid hrx
      clear hrx
      generalize w11.alloc (.cells #[.int .i64 0, .int .i64 0, .int .i64 0] 35) = w12 at *
      obtain ⟨xb, hxb⟩ : ∃ xb, xb = w11.heap.size := ⟨_, rfl⟩
      rw [← hxb] at HX ⊢
      clear hxb
      have l0 := row_range HU.out
      have l1 := row_range HQ.out
      go_wp2_with (first | (refine wpList_load_mid rfl 24 _ rfl ub 0 rfl _ _ l0 Tryd.underlying24 rfl infoRule ?_) | (refine wpList_load_mid rfl 26 _ rfl qb 0 rfl _ _ l1 Tryd.underlying26 rfl infoPat ?_))
      refine (K7.out a1 c1 w12 HB.out HI1.out HC1.out).mono ?_
      rintro e13 w13 ⟨⟨o2, rfl, ht2⟩, hb13⟩
      clear l0 l1
      have HU := Lib.hid (HU.out.keep hb13 HU.out.lt)
      have HP := Lib.hid (HP.out.keep hb13 HP.out.lt)
      have HQ := Lib.hid (HQ.out.keep hb13 HQ.out.lt)
      have HA := Lib.hid (HA.out.keep hb13 HA.out.lt)
      have HBB := Lib.hid (HBB.out.keep hb13 HBB.out.lt)
      have HCC := Lib.hid (HCC.out.keep hb13 HCC.out.lt)
      have HX := Lib.hid (HX.out.keep hb13 HX.out.lt)
      have HI1 := Lib.hid (HI1.out.keep hb13)
      have HVA := Lib.hid (HVA.out.keep hb13)
      have HVB := Lib.hid (HVB.out.keep hb13)
      have HI2 := Lib.hid (HI2.out.keep hb13)
      have HB := Lib.hid (HB.out.trans (hb13.mono HB.out.size))
      clear hb13
      have HLI := Lib.hid (HLK.out _ _ HT1.out ht2)
      clear ht2 HT1
      cases o2 with
      | full =>
        exact absurd HLI.out id
      | none =>
        unfold againV
        rw [errV_some (show (5 : Int) ≠ 0 by decide)]
        go_upto_region 15 with fail
        have hrx : Row (w13.alloc (.cells #[.int .i64 0, .int .i64 0, .int .i64 0] 35)) w13.heap.size 35 (z3) := row_alloc w13 _ _
        have hbx : Below w13.heap.size w13 (w13.alloc (.cells #[.int .i64 0, .int .i64 0, .int .i64 0] 35)) := (Below.refl _ _).alloc (Nat.le_refl _) _
        have HU := Lib.hid (HU.out.keep hbx HU.out.lt)
        have HP := Lib.hid (HP.out.keep hbx HP.out.lt)
        have HQ := Lib.hid (HQ.out.keep hbx HQ.out.lt)
        have HA := Lib.hid (HA.out.keep hbx HA.out.lt)
        have HBB := Lib.hid (HBB.out.keep hbx HBB.out.lt)
        have HCC := Lib.hid (HCC.out.keep hbx HCC.out.lt)
        have HX := Lib.hid (HX.out.keep hbx HX.out.lt)
        have HI1 := Lib.hid (HI1.out.keep hbx)
        have HVA := Lib.hid (HVA.out.keep hbx)
        have HVB := Lib.hid (HVB.out.keep hbx)
        have HI2 := Lib.hid (HI2.out.keep hbx)
        have HB := Lib.hid (HB.out.trans (hbx.mono HB.out.size))
        clear hbx
        have HY := Lib.hid hrx
        clear hrx
        generalize w13.alloc (.cells #[.int .i64 0, .int .i64 0, .int .i64 0] 35) = w14 at *
        obtain ⟨yb, hyb⟩ : ∃ yb, yb = w13.heap.size := ⟨_, rfl⟩
        rw [← hyb] at HY ⊢
        clear hyb
        go_wp2_with fail
        go_ret
        exact ⟨rfl, HB.out⟩
      | «at» n2 u2 v2 =>
        exact absurd HLI.out id
    | «at» n1 u1 v1 =>
      unfold againV
      go_upto_region 14 with fail
      have hrx : Row (w11.alloc (.cells #[.int .i64 (n1 : Nat), .int .i64 u1, .int .i64 v1] 35)) w11.heap.size 35 (agn n1 u1 v1) := row_alloc w11 _ _
      have hbx : Below w11.heap.size w11 (w11.alloc (.cells #[.int .i64 (n1 : Nat), .int .i64 u1, .int .i64 v1] 35)) := (Below.refl _ _).alloc (Nat.le_refl _) _
      have HU := Lib.hid (HU.out.keep hbx HU.out.lt)
      have HP := Lib.hid (HP.out.keep hbx HP.out.lt)
      have HQ := Lib.hid (HQ.out.keep hbx HQ.out.lt)
      have HA := Lib.hid (HA.out.keep hbx HA.out.lt)
      have HBB := Lib.hid (HBB.out.keep hbx HBB.out.lt)
      have HCC := Lib.hid (HCC.out.keep hbx HCC.out.lt)
      have HI1 := Lib.hid (HI1.out.keep hbx)
      have HVA := Lib.hid (HVA.out.keep hbx)
      have HVB := Lib.hid (HVB.out.keep hbx)
      have HI2 := Lib.hid (HI2.out.keep hbx)
      have HB := Lib.hid (HB.out.trans (hbx.mono HB.out.size))
      clear hbx
      have HX := Lib.hid hrx
      clear hrx
      generalize w11.alloc (.cells #[.int .i64 (n1 : Nat), .int .i64 u1, .int .i64 v1] 35) = w12 at *
      obtain ⟨xb, hxb⟩ : ∃ xb, xb = w11.heap.size := ⟨_, rfl⟩
      rw [← hxb] at HX ⊢
      clear hxb
      have l0 := row_range HU.out
      have l1 := row_range HQ.out
      go_wp2_with (first | (refine wpList_load_mid rfl 24 _ rfl ub 0 rfl _ _ l0 Tryd.underlying24 rfl infoRule ?_) | (refine wpList_load_mid rfl 26 _ rfl qb 0 rfl _ _ l1 Tryd.underlying26 rfl infoPat ?_))
      refine (K7.out a1 c1 w12 HB.out HI1.out HC1.out).mono ?_
      rintro e13 w13 ⟨⟨o2, rfl, ht2⟩, hb13⟩
      clear l0 l1
      have HU := Lib.hid (HU.out.keep hb13 HU.out.lt)
      have HP := Lib.hid (HP.out.keep hb13 HP.out.lt)
      have HQ := Lib.hid (HQ.out.keep hb13 HQ.out.lt)
      have HA := Lib.hid (HA.out.keep hb13 HA.out.lt)
      have HBB := Lib.hid (HBB.out.keep hb13 HBB.out.lt)
      have HCC := Lib.hid (HCC.out.keep hb13 HCC.out.lt)
      have HX := Lib.hid (HX.out.keep hb13 HX.out.lt)
      have HI1 := Lib.hid (HI1.out.keep hb13)
      have HVA := Lib.hid (HVA.out.keep hb13)
      have HVB := Lib.hid (HVB.out.keep hb13)
      have HI2 := Lib.hid (HI2.out.keep hb13)
      have HB := Lib.hid (HB.out.trans (hb13.mono HB.out.size))
      clear hb13
      have HLI := Lib.hid (HLK.out _ _ HT1.out ht2)
      clear ht2 HT1
      cases o2 with
      | full => exact absurd HLI.out id
      | none => exact absurd HLI.out id
      | «at» n2 u2 v2 =>
        unfold againV
        obtain ⟨hnn, hsq⟩ : n1 = n2 ∧ u1 * u1 + v1 * v1 = u2 * u2 + v2 * v2 := HLI.out
        subst hnn
        go_upto_region 15 with fail
        have hrx : Row (w13.alloc (.cells #[.int .i64 (n1 : Nat), .int .i64 u2, .int .i64 v2] 35)) w13.heap.size 35 (agn n1 u2 v2) := row_alloc w13 _ _
        have hbx : Below w13.heap.size w13 (w13.alloc (.cells #[.int .i64 (n1 : Nat), .int .i64 u2, .int .i64 v2] 35)) := (Below.refl _ _).alloc (Nat.le_refl _) _
        have HU := Lib.hid (HU.out.keep hbx HU.out.lt)
        have HP := Lib.hid (HP.out.keep hbx HP.out.lt)
        have HQ := Lib.hid (HQ.out.keep hbx HQ.out.lt)
        have HA := Lib.hid (HA.out.keep hbx HA.out.lt)
        have HBB := Lib.hid (HBB.out.keep hbx HBB.out.lt)
        have HCC := Lib.hid (HCC.out.keep hbx HCC.out.lt)
        have HX := Lib.hid (HX.out.keep hbx HX.out.lt)
        have HI1 := Lib.hid (HI1.out.keep hbx)
        have HVA := Lib.hid (HVA.out.keep hbx)
        have HVB := Lib.hid (HVB.out.keep hbx)
        have HI2 := Lib.hid (HI2.out.keep hbx)
        have HB := Lib.hid (HB.out.trans (hbx.mono HB.out.size))
        clear hbx
        have HY := Lib.hid hrx
        clear hrx
        generalize w13.alloc (.cells #[.int .i64 (n1 : Nat), .int .i64 u2, .int .i64 v2] 35) = w14 at *
        obtain ⟨yb, hyb⟩ : ∃ yb, yb = w13.heap.size := ⟨_, rfl⟩
        rw [← hyb] at HY ⊢
        clear hyb
        obtain ⟨p1, hp1⟩ : ∃ p1, p1 = wrap64 (u1 * u1) := ⟨_, rfl⟩
        obtain ⟨p2, hp2⟩ : ∃ p2, p2 = wrap64 (v1 * v1) := ⟨_, rfl⟩
        obtain ⟨q1, hq1⟩ : ∃ q1, q1 = wrap64 (u2 * u2) := ⟨_, rfl⟩
        obtain ⟨q2, hq2⟩ : ∃ q2, q2 = wrap64 (v2 * v2) := ⟨_, rfl⟩
        obtain ⟨s, hs⟩ : ∃ s, s = wrap64 (p1 + p2) := ⟨_, rfl⟩
        have hs2 : wrap64 (q1 + q2) = s := by rw [hs, hp1, hp2, hq1, hq2, wrap_sum, wrap_sum, hsq]
        have hp1' := hp1.symm
        have hp2' := hp2.symm
        have hq1' := hq1.symm
        have hq2' := hq2.symm
        have hs' := hs.symm
        have x0 := HX.out.cell 0
        have x1 := HX.out.cell 1
        have x2 := HX.out.cell 2
        have y0 := HY.out.cell 0
        have y1 := HY.out.cell 1
        have y2 := HY.out.cell 2
        unfold agn at x0 x1 x2 y0 y1 y2
        dsimp only [List.getElem?_cons_succ, List.getElem?_cons_zero] at x0 x1 x2 y0 y1 y2
        clear hp1 hp2 hq1 hq2 hs hsq HLI
        go_wp2_with fail
        go_ret
        exact ⟨by simp, HB.out⟩
  · have K8 := Lib.hid (K8.out hB)
    have K9 := Lib.hid (K9.out hB)
    rw [(HA1.out hB).1, errV_some (by decide)] at K8
    rw [(HA1.out hB).2, errV_some (by decide)] at K9
    clear K6 K7 HA1
    have l0 := row_range HU.out
    have l1 := row_range HP.out
    go_wp2_with (first | (refine wpList_load_mid rfl 24 _ rfl ub 0 rfl _ _ l0 Tryd.underlying24 rfl infoRule ?_) | (refine wpList_load_mid rfl 26 _ rfl pb 0 rfl _ _ l1 Tryd.underlying26 rfl infoPat ?_))
    refine (K8.out w10 HB.out).mono ?_
    rintro e11 w11 ⟨rfl, hb11⟩
    clear l0 l1
    have HU := Lib.hid (HU.out.keep hb11 HU.out.lt)
    have HP := Lib.hid (HP.out.keep hb11 HP.out.lt)
    have HQ := Lib.hid (HQ.out.keep hb11 HQ.out.lt)
    have HA := Lib.hid (HA.out.keep hb11 HA.out.lt)
    have HBB := Lib.hid (HBB.out.keep hb11 HBB.out.lt)
    have HCC := Lib.hid (HCC.out.keep hb11 HCC.out.lt)
    have HI1 := Lib.hid (HI1.out.keep hb11)
    have HVA := Lib.hid (HVA.out.keep hb11)
    have HVB := Lib.hid (HVB.out.keep hb11)
    have HI2 := Lib.hid (HI2.out.keep hb11)
    have HB := Lib.hid (HB.out.trans (hb11.mono HB.out.size))
    clear hb11
    go_upto_region 14 with fail
    have hrx : Row (w11.alloc (.cells #[.int .i64 0, .int .i64 0, .int .i64 0] 35)) w11.heap.size 35 (z3) := row_alloc w11 _ _
    have hbx : Below w11.heap.size w11 (w11.alloc (.cells #[.int .i64 0, .int .i64 0, .int .i64 0] 35)) := (Below.refl _ _).alloc (Nat.le_refl _) _
    have HU := Lib.hid (HU.out.keep hbx HU.out.lt)
    have HP := Lib.hid (HP.out.keep hbx HP.out.lt)
    have HQ := Lib.hid (HQ.out.keep hbx HQ.out.lt)
    have HA := Lib.hid (HA.out.keep hbx HA.out.lt)
    have HBB := Lib.hid (HBB.out.keep hbx HBB.out.lt)
    have HCC := Lib.hid (HCC.out.keep hbx HCC.out.lt)
    have HI1 := Lib.hid (HI1.out.keep hbx)
    have HVA := Lib.hid (HVA.out.keep hbx)
    have HVB := Lib.hid (HVB.out.keep hbx)
    have HI2 := Lib.hid (HI2.out.keep hbx)
    have HB := Lib.hid (HB.out.trans (hbx.mono HB.out.size))
    clear hbx
    have HX := Lib.hid hrx
    clear hrx
    generalize w11.alloc (.cells #[.int .i64 0, .int .i64 0, .int .i64 0] 35) = w12 at *
    obtain ⟨xb, hxb⟩ : ∃ xb, xb = w11.heap.size := ⟨_, rfl⟩
    rw [← hxb] at HX ⊢
    clear hxb
    have l0 := row_range HU.out
    have l1 := row_range HQ.out
    go_wp2_with (first | (refine wpList_load_mid rfl 24 _ rfl ub 0 rfl _ _ l0 Tryd.underlying24 rfl infoRule ?_) | (refine wpList_load_mid rfl 26 _ rfl qb 0 rfl _ _ l1 Tryd.underlying26 rfl infoPat ?_))
    refine (K9.out a1 c1 w12 HB.out HI1.out).mono ?_
    rintro e13 w13 ⟨rfl, hb13⟩
    clear l0 l1
    have HU := Lib.hid (HU.out.keep hb13 HU.out.lt)
    have HP := Lib.hid (HP.out.keep hb13 HP.out.lt)
    have HQ := Lib.hid (HQ.out.keep hb13 HQ.out.lt)
    have HA := Lib.hid (HA.out.keep hb13 HA.out.lt)
    have HBB := Lib.hid (HBB.out.keep hb13 HBB.out.lt)
    have HCC := Lib.hid (HCC.out.keep hb13 HCC.out.lt)
    have HX := Lib.hid (HX.out.keep hb13 HX.out.lt)
    have HI1 := Lib.hid (HI1.out.keep hb13)
    have HVA := Lib.hid (HVA.out.keep hb13)
    have HVB := Lib.hid (HVB.out.keep hb13)
    have HI2 := Lib.hid (HI2.out.keep hb13)
    have HB := Lib.hid (HB.out.trans (hb13.mono HB.out.size))
    clear hb13
    go_upto_region 15 with fail
    have hrx : Row (w13.alloc (.cells #[.int .i64 0, .int .i64 0, .int .i64 0] 35)) w13.heap.size 35 (z3) := row_alloc w13 _ _
    have hbx : Below w13.heap.size w13 (w13.alloc (.cells #[.int .i64 0, .int .i64 0, .int .i64 0] 35)) := (Below.refl _ _).alloc (Nat.le_refl _) _
    have HU := Lib.hid (HU.out.keep hbx HU.out.lt)
    have HP := Lib.hid (HP.out.keep hbx HP.out.lt)
    have HQ := Lib.hid (HQ.out.keep hbx HQ.out.lt)
    have HA := Lib.hid (HA.out.keep hbx HA.out.lt)
    have HBB := Lib.hid (HBB.out.keep hbx HBB.out.lt)
    have HCC := Lib.hid (HCC.out.keep hbx HCC.out.lt)
    have HX := Lib.hid (HX.out.keep hbx HX.out.lt)
    have HI1 := Lib.hid (HI1.out.keep hbx)
    have HVA := Lib.hid (HVA.out.keep hbx)
    have HVB := Lib.hid (HVB.out.keep hbx)
    have HI2 := Lib.hid (HI2.out.keep hbx)
    have HB := Lib.hid (HB.out.trans (hbx.mono HB.out.size))
    clear hbx
    have HY := Lib.hid hrx
    clear hrx
    generalize w13.alloc (.cells #[.int .i64 0, .int .i64 0, .int .i64 0] 35) = w14 at *
    obtain ⟨yb, hyb⟩ : ∃ yb, yb = w13.heap.size := ⟨_, rfl⟩
    rw [← hyb] at HY ⊢
    clear hyb
    go_wp2_with fail
    go_ret
    exact ⟨rfl, HB.out⟩
theorem tfl_zero {W H k : Int} {zs : List Int} (h : tfl W H zs k = 0) : pfault W H zs = 0 ∧ 0 ≤ k ∧ k ≤ 7 := by
  unfold tfl at h
  by_cases h1 : pfault W H zs = 0
  · rw [if_neg (fun x => x h1)] at h
    by_cases h2 : k < 0 ∨ 7 < k
    · rw [if_pos h2] at h; cases h
    · exact ⟨h1, by omega, by omega⟩
  · rw [if_pos h1] at h; exact absurd h h1
theorem planeTurns_any (K B S st ra : Int) (ta : Option Addr) (tn tc : Nat) (tz : List Int) (tu : ByteArray) (W H : Int) (a : Option Addr) (n c : Nat) (zs : List Int) (k : Int) (w : World) (hT : Ints.Is w ta tn tz) (hu : tu.size ≤ 9223372036854775807) (hZ : Ints.Is w a n zs) (hc : n ≤ c) :
    Calls Tryd.prog 3 #[.agg #[.int .i64 K, .int .i64 B, .int .i64 S, .int .i64 st, .int .i64 ra, .slice ta tn tc, .string tu], .agg #[.int .i64 W, .int .i64 H, .slice a n c], .int .i64 k] w fun e w' => e = .returned (.bool true) ∧ Below w.heap.size w w' := by
  by_cases h1 : tfl W H zs k = 0
  · obtain ⟨hp, hk0, hk7⟩ := tfl_zero h1
    obtain ⟨W', H', rfl, rfl, hW, hH, hlen, hzs, hlt⟩ := pfault_zero hp
    obtain ⟨k', rfl⟩ := Int.eq_ofNat_of_zero_le hk0
    have hn := hZ.len
    rw [hzs] at hZ hp
    by_cases h2 : plf K B S st ra tn tz tu W' H' (flat W' H' (cel zs W')) = 0
    · obtain ⟨rfl, hl, _⟩ := plf_zero h2
      obtain ⟨Bn, rfl, hB⟩ := bits_nat hl.b
      obtain ⟨Sn, rfl, hS⟩ := bits_nat hl.s
      exact planeTurns_ok st ra 1 Bn Sn ta tn tc tz tu W' H' k' a n c (cel zs W') w hB hS hT hu hZ (by rw [← hn]; exact hlen) hc hW hH (by omega) hlt h2
    · exact planeTurns_bad2 K B S st ra ta tn tc tz tu W' H' k' a n c (cel zs W') w hT hu hZ (by rw [← hn]; exact hlen) hW hH (by omega) hp h2
  · exact planeTurns_bad1 K B S st ra ta tn tc tz tu W H a n c zs k w hT hu hZ h1
end Pn
end Go.Proofs.YtdckcejkliggfaaDoor
