/- WALK: sums.Jump: n steps at once. -/
import Derived.Test.YtahhhbdnhimbfaaDoorSmT
import Derived.Test.YtahhhbdnhimbfaaDoorLnNs
namespace Go.Proofs.YtahhhbdnhimbfaaDoor
set_option linter.unusedSimpArgs false
set_option linter.unusedVariables false
open Go.RowKit
namespace Ln
open Tld Mem Sm

theorem is_other {w w' : World} {g b n : Nat} {zs : List Int} (h : Ints.Is w (some ⟨g, 0, none⟩) n zs) (ho : Only b w w') (hne : g ≠ b) : Ints.Is w' (some ⟨g, 0, none⟩) n zs := by
  refine ⟨h.len, fun i hi => ?_, h.le⟩
  obtain ⟨b', o', e, hb, hc⟩ := h.cells i hi
  cases e
  refine ⟨g, 0, rfl, by rw [ho.size]; exact hb, ?_⟩
  rw [World.cell?_of_block (w := w) (ho.block g hne)]
  exact hc
theorem runL_go {t : Nat → Nat} {st R : Nat} {wz : List Int} (h : ∀ z ∈ wz, 0 ≤ z) : ∀ n, runL t st R wz n = lst wz.length (go t st R wz.length (wf wz) n)
  | 0 => (lst_wf h).symm
  | n + 1 => by
    show stepL t st R (runL t st R wz n) = _
    rw [runL_go h n]
    unfold stepL
    rw [lst_len]
    refine lst_congr fun k hk => ?_
    exact stp_congr (by omega) (fun j hj => wf_lst hj) k
theorem does_congr {t : Nat → Nat} {st R n e : Nat} {b b' : Nat → Nat} (h : Does t st R n b e) (hb : ∀ i, i < n → b i = b' i) : Does t st R n b' e := fun v hv k hk => by
  rw [← h v hv k hk, conv_congr (fun _ _ => rfl) hb]
/-- The polynomial, of the first so many numbers. -/
def part (n R : Nat) (c : Nat → Nat) (m k : Nat) : Nat := sumN (fun i => if pos n R i = k then c i else 0) m
theorem part_next (n R : Nat) (c : Nat → Nat) (m k : Nat) : part n R c (m + 1) k = part n R c m k + (if pos n R m = k then c m else 0) := rfl
theorem pos_tmod {n R i : Nat} (h : 0 < n) : ∃ q : Int, ((R : Int) - (i : Int)).tmod (n : Int) = q ∧ -(n : Int) ≤ q ∧ q < n ∧ (q + (n : Int)).tmod (n : Int) = ((pos n R i : Nat) : Int) := ix_tmod (n := n) (R := i) (j := R) h
set_option maxHeartbeats 8000000 in
set_option maxRecDepth 1000000 in
theorem jump_bad1 (K B S st ra : Int) (ta : Option Addr) (tn tc : Nat) (tz : List Int) (tu : ByteArray) (wa : Option Addr) (wn wc : Nat) (wz : List Int) (n f : Int) (w : World) (hT : Ints.Is w ta tn tz) (hu : tu.size ≤ 9223372036854775807) (hW : Ints.Is w wa wn wz) (hf : wfault K B S st ra tz tu wz = f) (h0 : f ≠ 0) :
    Calls Tryd.prog 9 #[.agg #[.int .i64 K, .int .i64 B, .int .i64 S, .int .i64 st, .int .i64 ra, .slice ta tn tc, .string tu], .slice wa wn wc, .int .i64 n] w fun e w' => e = .returned (.tuple #[.slice none 0 0, .iface 45 (.int .i64 f)]) ∧ Below w.heap.size w w' := by
  obtain ⟨hR, hB⟩ := row_rule w K B S st ra ta tn tc tu
  have HB := Lib.hid hB
  have HC := Lib.hid (wcheck_any K B S st ra ta tn tc tz tu wa wn wc wz _ (hT.keep hB) hu (hW.keep hB))
  rw [hf, errV_some h0] at HC
  clear hR hB hT hW hf
  unfold rulL at HC
  go_enter Tryd.func9, Tryd.ntmps9
  go_wp2_with fail
  refine HC.out.mono ?_
  rintro e1 w1 ⟨rfl, hb1⟩
  have HB1 := Lib.hid (HB.out.trans (hb1.mono HB.out.size))
  clear hb1
  go_wp2_with fail
  go_ret2
  exact ⟨rfl, HB1.out⟩
set_option maxHeartbeats 8000000 in
set_option maxRecDepth 1000000 in
theorem jump_bad2 (K B S : Int) (st ra : Nat) (ta : Option Addr) (tn tc : Nat) (tz : List Int) (tu : ByteArray) (wa : Option Addr) (wn wc : Nat) (wz : List Int) (n : Int) (w : World) (hT : Ints.Is w ta tn tz) (hu : tu.size ≤ 9223372036854775807) (hW : Ints.Is w wa wn wz) (hf : wfault K B S st ra tz tu wz = 0) (hs : ¬ SumT (wf tz) st (2 * ra + 1)) :
    Calls Tryd.prog 9 #[.agg #[.int .i64 K, .int .i64 B, .int .i64 S, .int .i64 st, .int .i64 ra, .slice ta tn tc, .string tu], .slice wa wn wc, .int .i64 n] w fun e w' => e = .returned (.tuple #[.slice none 0 0, .iface 45 (.int .i64 5)]) ∧ Below w.heap.size w w' := by
  have HCK := Lib.hid (fun w2 (h2 : Below w.heap.size w w2) => wcheck_any K B S st ra ta tn tc tz tu wa wn wc wz w2 (hT.keep h2) hu (hW.keep h2))
  rw [hf, errV_zero rfl] at HCK
  unfold rulL at HCK
  obtain ⟨ho, hwn, hz⟩ := wfault_zero hf
  have HLI := Lib.hid (fun w2 (h2 : Below w.heap.size w w2) => linear_ok K B S st ra ta tn tc tz tu w2 (hT.keep h2) hu (lfault_ok ho))
  have HT := Lib.hid hT
  have HW := Lib.hid hW
  obtain ⟨s', r', es, er, h2, h4, hr5, htn, htl, htz⟩ := ho.nat hT.len
  obtain rfl : st = s' := by omega
  obtain rfl : ra = r' := by omega
  have hwl := hW.len
  rw [hwl] at hwn
  have HZ := Lib.hid hz
  have HTL := Lib.hid (wf_lt (st := st) (by omega) htz)
  clear hT hW hf ho hz htz htn es er hwl
  go_enter Tryd.func9, Tryd.ntmps9
  go_upto_region 1 with fail
  obtain ⟨hR, hB⟩ := row_rule w K B S st ra ta tn tc tu
  have HR : Hid (Row (w.alloc (.cells #[.int .i64 K, .int .i64 B, .int .i64 S, .int .i64 (st : Nat), .int .i64 (ra : Nat), .slice ta tn tc, .string tu] 24)) w.heap.size 24 (rulL K B S st ra ta tn tc tu)) := hR
  have HB : Hid (Below w.heap.size w (w.alloc (.cells #[.int .i64 K, .int .i64 B, .int .i64 S, .int .i64 (st : Nat), .int .i64 (ra : Nat), .slice ta tn tc, .string tu] 24))) := hB
  clear hR hB
  generalize w.alloc (.cells #[.int .i64 K, .int .i64 B, .int .i64 S, .int .i64 (st : Nat), .int .i64 (ra : Nat), .slice ta tn tc, .string tu] 24) = w1 at *
  obtain ⟨b3, hb3⟩ : ∃ b3, b3 = w.heap.size := ⟨_, rfl⟩
  rw [← hb3] at HR ⊢
  have hle3 : w.heap.size ≤ b3 := by omega
  clear hb3
  have l3 := row_range HR.out
  go_wp2_with (refine wpList_load_mid rfl 24 _ rfl b3 0 rfl _ _ l3 Tryd.underlying24 rfl infoRule ?_)
  clear l3
  refine (HCK.out _ HB.out).mono ?_
  rintro e0 w2 ⟨rfl, hb9⟩
  have HR := Lib.hid (HR.out.keep hb9 HR.out.lt)
  have HB := Lib.hid (HB.out.trans (hb9.mono HB.out.size))
  clear hb9 HCK
  have l3 := row_range HR.out
  go_wp2_with (refine wpList_load_mid rfl 24 _ rfl b3 0 rfl _ _ l3 Tryd.underlying24 rfl infoRule ?_)
  clear l3
  refine (HLI.out _ HB.out).mono ?_
  rintro e0 w3 ⟨h5 | ⟨rfl, _⟩, hb9⟩
  · obtain ⟨g, _, _, hyes⟩ := h5
    exact absurd hyes hs
  · skip
    have HR := Lib.hid (HR.out.keep hb9 HR.out.lt)
    have HB := Lib.hid (HB.out.trans (hb9.mono HB.out.size))
    clear hb9
    clear HLI hs
    go_wp2_with fail
    go_ret2
    exact ⟨rfl, HB.out⟩
set_option maxHeartbeats 8000000 in
set_option maxRecDepth 1000000 in
theorem jump_bad3 (K B S : Int) (st ra : Nat) (ta : Option Addr) (tn tc : Nat) (tz : List Int) (tu : ByteArray) (wa : Option Addr) (wn wc : Nat) (wz : List Int) (n : Int) (w : World) (hT : Ints.Is w ta tn tz) (hu : tu.size ≤ 9223372036854775807) (hW : Ints.Is w wa wn wz) (hf : wfault K B S st ra tz tu wz = 0) (hs : SumT (wf tz) st (2 * ra + 1)) (hn : n < 0 ∨ 1000000000000000000 < n) :
    Calls Tryd.prog 9 #[.agg #[.int .i64 K, .int .i64 B, .int .i64 S, .int .i64 st, .int .i64 ra, .slice ta tn tc, .string tu], .slice wa wn wc, .int .i64 n] w fun e w' => e = .returned (.tuple #[.slice none 0 0, .iface 45 (.int .i64 1)]) ∧ Below w.heap.size w w' := by
  have HCK := Lib.hid (fun w2 (h2 : Below w.heap.size w w2) => wcheck_any K B S st ra ta tn tc tz tu wa wn wc wz w2 (hT.keep h2) hu (hW.keep h2))
  rw [hf, errV_zero rfl] at HCK
  unfold rulL at HCK
  obtain ⟨ho, hwn, hz⟩ := wfault_zero hf
  have HLI := Lib.hid (fun w2 (h2 : Below w.heap.size w w2) => linear_ok K B S st ra ta tn tc tz tu w2 (hT.keep h2) hu (lfault_ok ho))
  have HT := Lib.hid hT
  have HW := Lib.hid hW
  obtain ⟨s', r', es, er, h2, h4, hr5, htn, htl, htz⟩ := ho.nat hT.len
  obtain rfl : st = s' := by omega
  obtain rfl : ra = r' := by omega
  have hwl := hW.len
  rw [hwl] at hwn
  have HZ := Lib.hid hz
  have HTL := Lib.hid (wf_lt (st := st) (by omega) htz)
  clear hT hW hf ho hz htz htn es er hwl
  go_enter Tryd.func9, Tryd.ntmps9
  go_upto_region 1 with fail
  obtain ⟨hR, hB⟩ := row_rule w K B S st ra ta tn tc tu
  have HR : Hid (Row (w.alloc (.cells #[.int .i64 K, .int .i64 B, .int .i64 S, .int .i64 (st : Nat), .int .i64 (ra : Nat), .slice ta tn tc, .string tu] 24)) w.heap.size 24 (rulL K B S st ra ta tn tc tu)) := hR
  have HB : Hid (Below w.heap.size w (w.alloc (.cells #[.int .i64 K, .int .i64 B, .int .i64 S, .int .i64 (st : Nat), .int .i64 (ra : Nat), .slice ta tn tc, .string tu] 24))) := hB
  clear hR hB
  generalize w.alloc (.cells #[.int .i64 K, .int .i64 B, .int .i64 S, .int .i64 (st : Nat), .int .i64 (ra : Nat), .slice ta tn tc, .string tu] 24) = w1 at *
  obtain ⟨b3, hb3⟩ : ∃ b3, b3 = w.heap.size := ⟨_, rfl⟩
  rw [← hb3] at HR ⊢
  have hle3 : w.heap.size ≤ b3 := by omega
  clear hb3
  have l3 := row_range HR.out
  go_wp2_with (refine wpList_load_mid rfl 24 _ rfl b3 0 rfl _ _ l3 Tryd.underlying24 rfl infoRule ?_)
  clear l3
  refine (HCK.out _ HB.out).mono ?_
  rintro e0 w2 ⟨rfl, hb9⟩
  have HR := Lib.hid (HR.out.keep hb9 HR.out.lt)
  have HB := Lib.hid (HB.out.trans (hb9.mono HB.out.size))
  clear hb9 HCK
  have l3 := row_range HR.out
  go_wp2_with (refine wpList_load_mid rfl 24 _ rfl b3 0 rfl _ _ l3 Tryd.underlying24 rfl infoRule ?_)
  clear l3
  refine (HLI.out _ HB.out).mono ?_
  rintro e0 w3 ⟨⟨g, rfl, _, _⟩ | ⟨_, hno⟩, hb9⟩
  · skip
    have HR := Lib.hid (HR.out.keep hb9 HR.out.lt)
    have HB := Lib.hid (HB.out.trans (hb9.mono HB.out.size))
    clear hb9
    clear HLI hs
    by_cases h0 : n < 0
    · have d0 : decide (n < 0) = true := decide_eq_true h0
      go_wp2_with fail
      go_ret2
      exact ⟨rfl, HB.out⟩
    · have d0 : decide (n < 0) = false := decide_eq_false h0
      have h1 : 1000000000000000000 < n := by omega
      have d1 : decide (1000000000000000000 < n) = true := decide_eq_true h1
      go_wp2_with fail
      go_ret2
      exact ⟨rfl, HB.out⟩
  · exact absurd hs hno
set_option maxHeartbeats 8000000 in
set_option maxRecDepth 1000000 in
theorem jump_ok (K B S : Int) (st ra : Nat) (ta : Option Addr) (tn tc : Nat) (tz : List Int) (tu : ByteArray) (wa : Option Addr) (wn wc : Nat) (wz : List Int) (n : Nat) (w : World) (hT : Ints.Is w ta tn tz) (hu : tu.size ≤ 9223372036854775807) (hW : Ints.Is w wa wn wz) (hf : wfault K B S st ra tz tu wz = 0) (hwc : wn ≤ wc) (hnil : wa = none → wn = 0) (hs : SumT (wf tz) st (2 * ra + 1)) (hn : n ≤ 1000000000000000000) :
    Calls Tryd.prog 9 #[.agg #[.int .i64 K, .int .i64 B, .int .i64 S, .int .i64 st, .int .i64 ra, .slice ta tn tc, .string tu], .slice wa wn wc, .int .i64 n] w fun e w' => (∃ ao co, e = .returned (.tuple #[.slice ao wn co, .nilIface]) ∧ wn ≤ co ∧ Ints.Is w' ao wn (runL (wf tz) st ra wz n) ∧ (ao = none → wn = 0)) ∧ Below w.heap.size w w' := by
  rcases Nat.eq_zero_or_pos wn with rfl | hpos
  · skip
    have HCK := Lib.hid (fun w2 (h2 : Below w.heap.size w w2) => wcheck_any K B S st ra ta tn tc tz tu wa 0 wc wz w2 (hT.keep h2) hu (hW.keep h2))
    rw [hf, errV_zero rfl] at HCK
    unfold rulL at HCK
    obtain ⟨ho, hwn, hz⟩ := wfault_zero hf
    have HLI := Lib.hid (fun w2 (h2 : Below w.heap.size w w2) => linear_ok K B S st ra ta tn tc tz tu w2 (hT.keep h2) hu (lfault_ok ho))
    have HT := Lib.hid hT
    have HW := Lib.hid hW
    obtain ⟨s', r', es, er, h2, h4, hr5, htn, htl, htz⟩ := ho.nat hT.len
    obtain rfl : st = s' := by omega
    obtain rfl : ra = r' := by omega
    have hwl := hW.len
    rw [hwl] at hwn
    have HZ := Lib.hid hz
    have HTL := Lib.hid (wf_lt (st := st) (by omega) htz)
    clear hT hW hf ho hz htz htn es er hwl
    go_enter Tryd.func9, Tryd.ntmps9
    go_upto_region 1 with fail
    obtain ⟨hR, hB⟩ := row_rule w K B S st ra ta tn tc tu
    have HR : Hid (Row (w.alloc (.cells #[.int .i64 K, .int .i64 B, .int .i64 S, .int .i64 (st : Nat), .int .i64 (ra : Nat), .slice ta tn tc, .string tu] 24)) w.heap.size 24 (rulL K B S st ra ta tn tc tu)) := hR
    have HB : Hid (Below w.heap.size w (w.alloc (.cells #[.int .i64 K, .int .i64 B, .int .i64 S, .int .i64 (st : Nat), .int .i64 (ra : Nat), .slice ta tn tc, .string tu] 24))) := hB
    clear hR hB
    generalize w.alloc (.cells #[.int .i64 K, .int .i64 B, .int .i64 S, .int .i64 (st : Nat), .int .i64 (ra : Nat), .slice ta tn tc, .string tu] 24) = w1 at *
    obtain ⟨b3, hb3⟩ : ∃ b3, b3 = w.heap.size := ⟨_, rfl⟩
    rw [← hb3] at HR ⊢
    have hle3 : w.heap.size ≤ b3 := by omega
    clear hb3
    have l3 := row_range HR.out
    go_wp2_with (refine wpList_load_mid rfl 24 _ rfl b3 0 rfl _ _ l3 Tryd.underlying24 rfl infoRule ?_)
    clear l3
    refine (HCK.out _ HB.out).mono ?_
    rintro e0 w2 ⟨rfl, hb9⟩
    have HR := Lib.hid (HR.out.keep hb9 HR.out.lt)
    have HB := Lib.hid (HB.out.trans (hb9.mono HB.out.size))
    clear hb9 HCK
    have l3 := row_range HR.out
    go_wp2_with (refine wpList_load_mid rfl 24 _ rfl b3 0 rfl _ _ l3 Tryd.underlying24 rfl infoRule ?_)
    clear l3
    have HNIL2 : Hid (runL (wf tz) st ra wz n = []) := List.eq_nil_of_length_eq_zero ((runL_len n).trans HW.out.len)
    refine (HLI.out _ HB.out).mono ?_
    rintro e0 w3 ⟨⟨g, rfl, _, _⟩ | ⟨_, hno⟩, hb9⟩
    · skip
      have HR := Lib.hid (HR.out.keep hb9 HR.out.lt)
      have HB := Lib.hid (HB.out.trans (hb9.mono HB.out.size))
      clear hb9
      clear HLI hs
      have d0 : decide ((n : Int) < 0) = false := decide_eq_false (by omega)
      have d1 : decide ((1000000000000000000 : Int) < (n : Int)) = false := decide_eq_false (by omega)
      go_wp2_with fail
      go_ret2
      exact ⟨⟨none, 0, rfl, Nat.le_refl _, by rw [HNIL2.out]; exact Ints.Is.nil _, by intro _; first | rfl | trivial⟩, HB.out⟩
    · exact absurd hs hno
  · skip
    obtain ⟨i0, hI0, hz0, hz1, hz2⟩ := info_parts infoIntN
    have HI0 := Lib.hid hI0
    have HZ0 := Lib.hid hz0
    have HZ1 := Lib.hid hz1
    have HZ2 := Lib.hid hz2
    clear hI0 hz0 hz1 hz2
    have HCK := Lib.hid (fun w2 (h2 : Below w.heap.size w w2) => wcheck_any K B S st ra ta tn tc tz tu wa wn wc wz w2 (hT.keep h2) hu (hW.keep h2))
    rw [hf, errV_zero rfl] at HCK
    unfold rulL at HCK
    obtain ⟨ho, hwn, hz⟩ := wfault_zero hf
    have HLI := Lib.hid (fun w2 (h2 : Below w.heap.size w w2) => linear_ok K B S st ra ta tn tc tz tu w2 (hT.keep h2) hu (lfault_ok ho))
    have HT := Lib.hid hT
    have HW := Lib.hid hW
    obtain ⟨s', r', es, er, h2, h4, hr5, htn, htl, htz⟩ := ho.nat hT.len
    obtain rfl : st = s' := by omega
    obtain rfl : ra = r' := by omega
    have hwl := hW.len
    rw [hwl] at hwn
    have HZ := Lib.hid hz
    have HTL := Lib.hid (wf_lt (st := st) (by omega) htz)
    clear hT hW hf ho hz htz htn es er hwl
    go_enter Tryd.func9, Tryd.ntmps9
    go_upto_region 1 with fail
    obtain ⟨hR, hB⟩ := row_rule w K B S st ra ta tn tc tu
    have HR : Hid (Row (w.alloc (.cells #[.int .i64 K, .int .i64 B, .int .i64 S, .int .i64 (st : Nat), .int .i64 (ra : Nat), .slice ta tn tc, .string tu] 24)) w.heap.size 24 (rulL K B S st ra ta tn tc tu)) := hR
    have HB : Hid (Below w.heap.size w (w.alloc (.cells #[.int .i64 K, .int .i64 B, .int .i64 S, .int .i64 (st : Nat), .int .i64 (ra : Nat), .slice ta tn tc, .string tu] 24))) := hB
    clear hR hB
    generalize w.alloc (.cells #[.int .i64 K, .int .i64 B, .int .i64 S, .int .i64 (st : Nat), .int .i64 (ra : Nat), .slice ta tn tc, .string tu] 24) = w1 at *
    obtain ⟨b3, hb3⟩ : ∃ b3, b3 = w.heap.size := ⟨_, rfl⟩
    rw [← hb3] at HR ⊢
    have hle3 : w.heap.size ≤ b3 := by omega
    clear hb3
    have l3 := row_range HR.out
    go_wp2_with (refine wpList_load_mid rfl 24 _ rfl b3 0 rfl _ _ l3 Tryd.underlying24 rfl infoRule ?_)
    clear l3
    refine (HCK.out _ HB.out).mono ?_
    rintro e0 w2 ⟨rfl, hb9⟩
    have HR := Lib.hid (HR.out.keep hb9 HR.out.lt)
    have HB := Lib.hid (HB.out.trans (hb9.mono HB.out.size))
    clear hb9 HCK
    have l3 := row_range HR.out
    go_wp2_with (refine wpList_load_mid rfl 24 _ rfl b3 0 rfl _ _ l3 Tryd.underlying24 rfl infoRule ?_)
    clear l3
    have HSR := Lib.hid (sumR_of hs)
    refine (HLI.out _ HB.out).mono ?_
    rintro e0 w3 ⟨⟨g, rfl, hC, _⟩ | ⟨_, hno⟩, hb9⟩
    · skip
      have HR := Lib.hid (HR.out.keep hb9 HR.out.lt)
      have HB := Lib.hid (HB.out.trans (hb9.mono HB.out.size))
      clear hb9
      have HC := Lib.hid hC
      clear HLI hs hC
      have d0 : decide ((n : Int) < 0) = false := decide_eq_false (by omega)
      have d1 : decide ((1000000000000000000 : Int) < (n : Int)) = false := decide_eq_false (by omega)
      have bw0 : ((wn : Int) == 0) = false := by rw [beq_eq_false_iff_ne]; omega
      have hwn00 : ¬ wn = 0 := by omega
      obtain ⟨ww, hww⟩ : ∃ ww, ww = 2 * ra + 1 := ⟨_, rfl⟩
      obtain ⟨t, ht⟩ : ∃ t, t = wf tz := ⟨_, rfl⟩
      rw [← ht] at HC HSR HTL
      rw [← hww] at HC ⊢
      have HWW := Lib.hid hww
      have HTE := Lib.hid ht
      obtain ⟨c, hc⟩ : ∃ c, c = cof t st ww := ⟨_, rfl⟩
      have HSR2 : Hid (SumR t st ra c) := by rw [hc, hww]; exact HSR.out
      have HCL : Hid (∀ i, c i < st) := fun i => by rw [hc]; exact HTL.out _
      rw [← hc] at HC
      have hw11 : ww ≤ 11 := by omega
      have hw1 : 1 ≤ ww := by omega
      clear HSR hww ht hc
      go_upto_region 12 with (refine Ops.wpList_make rfl 50 _ _ rfl 3 i0 (.int .i64 0) Tryd.underlying50 HI0.out HZ0.out rfl HZ1.out (by rw [HZ2.out]; decide) wn rfl rfl (by omega) ?_; intro gb w4 hgb hb9 hRb)
      have h3b : b3 < gb := by have := HR.out.lt; omega
      have hgne : g ≠ gb := by
        obtain ⟨b, o, e, hlt, _⟩ := HC.out.cells 0 (by omega)
        cases e
        omega
      have HC := Lib.hid (HC.out.keep hb9)
      have HR := Lib.hid (HR.out.keep hb9 HR.out.lt)
      have HB := Lib.hid (HB.out.trans (hb9.mono HB.out.size))
      clear hb9
      have HP : Hid (Row w4 gb 3 ((lst wn (fun k => part wn ra c 0 k % st)).map (Value.int .i64))) := by
        show Row w4 gb 3 _
        rw [show lst wn (fun k => part wn ra c 0 k % st) = List.replicate wn 0 from by
          apply List.ext_getElem (by simp [lst])
          intro i h1 h2
          simp [lst, part, sumN], List.map_replicate]
        exact hRb
      clear hRb hgb
      go_wp2_with fail
      go_loopw [45] (fun u wr => ∃ i : Nat, i ≤ ww ∧ u = .int .i64 i ∧ Row wr gb 3 ((lst wn (fun k => part wn ra c i k % st)).map (Value.int .i64)) ∧ Ints.Is wr (some ⟨g, 0, none⟩) ww (lst ww c) ∧ Row wr b3 24 (rulL K B S st ra ta tn tc tu) ∧ Below w.heap.size w wr) (fun u _ => ww - (intOf u).toNat)
      case atStart => exact ⟨0, Nat.zero_le _, rfl, HP.out, HC.out, HR.out, HB.out⟩
      case round =>
        clear HP HC HR HB
        obtain ⟨i, hi, rfl, hP, hC, hR, hbel⟩ := hrel
        have HP := Lib.hid hP
        have HC := Lib.hid hC
        have HR := Lib.hid hR
        have HB := Lib.hid hbel
        clear hP hC hR hbel
        by_cases hlt : i < ww
        · obtain ⟨bc, oc, ec, _, hcc⟩ := HC.out.cells i hlt
          cases ec
          dsimp only at hcc
          rw [Nat.zero_add, lst_get hlt] at hcc
          obtain ⟨q, hq1, hq2, hq3, hq4⟩ := pos_tmod (n := wn) (R := ra) (i := i) hpos
          obtain ⟨k0, hk0⟩ : ∃ k0, k0 = pos wn ra i := ⟨_, rfl⟩
          have hk0n : k0 < wn := by rw [hk0]; exact pos_lt hpos
          rw [← hk0] at hq4
          have f3 := HR.out.cell 3
          have f4 := HR.out.cell 4
          unfold rulL at f3 f4
          dsimp only [List.getElem?_cons_succ, List.getElem?_cons_zero] at f3 f4
          have hst0 : ((st : Int) == 0) = false := by rw [beq_eq_false_iff_ne]; omega
          have hst1 : ¬ st = 0 := by omega
          have hcell := (HP.out.cell k0).trans (lst_getI hk0n)
          have hfrz := HP.out.frozen k0
          obtain ⟨ov, hov⟩ : ∃ ov, ov = part wn ra c i k0 % st := ⟨_, rfl⟩
          have hovm : ov < st := by rw [hov]; exact Nat.mod_lt _ (by omega)
          obtain ⟨x, hx⟩ : ∃ x, x = c i := ⟨_, rfl⟩
          have hx4 : x < st := by rw [hx]; exact HCL.out i
          obtain ⟨nv, hnv⟩ : ∃ nv, nv = (ov + x) % st := ⟨_, rfl⟩
          have hmod : ((ov : Int) + (x : Int)).tmod (st : Int) = (nv : Int) := by
            rw [hnv, show ((ov : Int) + (x : Int)) = ((ov + x : Nat) : Int) from by push_cast; rfl]
            exact Int.ofNat_tmod _ _
          have hnvm : nv < st := by rw [hnv]; exact Nat.mod_lt _ (by omega)
          have hset : Row (wr.setCell ⟨gb, k0, none⟩ (.int .i64 ((nv : Nat) : Int))).drew gb 3 ((lst wn (fun k => part wn ra c (i + 1) k % st)).map (Value.int .i64)) := by
            have h := HP.out.set k0 (.int .i64 ((nv : Nat) : Int))
            rw [set_mapI, lst_set (G := fun k => part wn ra c (i + 1) k % st) (v := nv) ?_ ?_] at h
            · exact h.drew
            · show nv = part wn ra c (i + 1) k0 % st
              rw [part_next, if_pos hk0.symm, hnv, hov, hx, Nat.mod_add_mod]
            · intro k hk hne
              show part wn ra c i k % st = part wn ra c (i + 1) k % st
              rw [part_next, if_neg (fun h => hne (by rw [hk0]; exact h.symm)), Nat.add_zero]
          have ho : Only gb wr (wr.setCell ⟨gb, k0, none⟩ (.int .i64 ((nv : Nat) : Int))).drew := (only_setCell wr gb k0 (.int .i64 ((nv : Nat) : Int))).trans ⟨rfl, rfl, rfl, rfl, fun _ _ => rfl⟩
          have HSET := Lib.hid hset
          have HC2 := Lib.hid (is_other HC.out ho hgne)
          have HR2 := Lib.hid (HR.out.other ho (by omega))
          have HB2 := Lib.hid (HB.out.trans (ho.below (show w.heap.size ≤ gb by omega)))
          rw [← hov] at hcell
          rw [← hx] at hcc
          have u1 : IntKind.i64.wrap ((ov : Int) + (x : Int)) = (ov : Int) + (x : Int) := by rw [IntKind.wrap_i64]; omega
          clear hset ho HP HC HR HB hov hx hnv hk0
          go_wp2_with fail
          go_region_with (fail)
          all_goals
            clear f3 f4 hcell hfrz hcc
            generalize (wr.setCell ⟨gb, k0, none⟩ (.int .i64 ((nv : Nat) : Int))).drew = w9 at *
            go_wp2_with fail
            go_roundw
            case rel => exact ⟨i + 1, by omega, by go_num, HSET.out, HC2.out, HR2.out, HB2.out⟩
            case measure => simp [intOf]; omega
        · obtain rfl : i = ww := by omega
          have HBY := Lib.hid (row_isN HP.out lst_len (by unfold maxLen; omega))
          have HDO : Hid (Does t st ra wn (wf (lst wn (fun k => part wn ra c i k % st))) 1) := does_congr (does_one HSR2.out hpos) fun k hk => by
            rw [wf_lst hk, HWW.out]; rfl
          have HBL : Hid (∀ z ∈ lst wn (fun k => part wn ra c i k % st), 0 ≤ z ∧ z < (st : Int)) := lst_mem fun k => Nat.mod_lt _ (by omega)
          generalize lst wn (fun k => part wn ra c i k % st) = bz at *
          clear HP HC
          go_wp2_with fail
          refine (clone_any wa wn wc wz wr HW.out.len (by omega) (HW.out.keep HB.out).cells hnil).mono ?_
          rintro e5 w5 ⟨v5, rfl, hown, hb9⟩
          obtain ⟨ao, co, rfl, hco⟩ := own_slice2 hown
          have hI := own_is hown HW.out.len (by unfold maxLen; omega)
          have HO : Hid (Ints.Is w5 ao wn (lst wn (go t st ra wn (wf wz) 0))) := by
            have h1 : lst wn (go t st ra wn (wf wz) 0) = wz := by
              have := lst_wf (zs := wz) fun z hz => (HZ.out z hz).1
              rw [HW.out.len] at this
              exact this
            show Ints.Is w5 ao wn _
            rw [h1]; exact hI.1
          have HON : Hid (ao = none → wn = 0) := hI.2
          have HBY := Lib.hid (HBY.out.keep hb9)
          clear hI hown
          have HR := Lib.hid (HR.out.keep hb9 HR.out.lt)
          have HB := Lib.hid (HB.out.trans (hb9.mono HB.out.size))
          clear hb9
          have HVL : Hid (∀ i, wf wz i < st) := wf_lt (by omega) HZ.out
          go_wp2_with fail
          go_loopw [2, 11, 15] (fun u b v wr => ∃ (nn d e : Nat) (ao ab : Option Addr) (co cb : Nat) (bz : List Int), u = .int .i64 nn ∧ nn ≤ n ∧ d + nn * e = n ∧ b = .slice ab wn cb ∧ v = .slice ao wn co ∧ wn ≤ co ∧ Ints.Is wr ab wn bz ∧ Ints.Is wr ao wn (lst wn (go t st ra wn (wf wz) d)) ∧ (ao = none → wn = 0) ∧ (∀ z ∈ bz, 0 ≤ z ∧ z < (st : Int)) ∧ Does t st ra wn (wf bz) e ∧ Row wr b3 24 (rulL K B S st ra ta tn tc tu) ∧ Below w.heap.size w wr) (fun u _ _ _ => (intOf u).toNat)
          case atStart => exact ⟨n, 0, 1, ao, some ⟨gb, 0, none⟩, co, wn, bz, rfl, Nat.le_refl _, by omega, rfl, rfl, hco, HBY.out, HO.out, HON.out, HBL.out, HDO.out, HR.out, HB.out⟩
          case round =>
            clear HBY HO HON HBL HDO HR HB
            obtain ⟨nn, d, e, ao, ab, co, cb, bz, rfl, hnn, hde, rfl, rfl, hco, hBY, hO, hON, hBL, hDO, hR, hbel⟩ := hrel
            have HBY := Lib.hid hBY
            have HO := Lib.hid hO
            have HON := Lib.hid hON
            have HBL := Lib.hid hBL
            have HDO := Lib.hid hDO
            have HDE := Lib.hid hde
            have HR := Lib.hid hR
            have HB := Lib.hid hbel
            clear hBY hO hON hBL hDO hR hbel hde
            by_cases hp : 0 < nn
            · have dnn : decide ((0 : Int) < (nn : Int)) = true := decide_eq_true (by omega)
              have dnn2 : decide (0 < nn) = true := decide_eq_true hp
              have hdiv : ((nn : Nat) : Int).tdiv 2 = ((nn / 2 : Nat) : Int) := Int.ofNat_tdiv _ _
              have hql : nn / 2 < nn := by omega
              have HL4 : Hid (∀ z ∈ bz, 0 ≤ z ∧ z < ((4 : Nat) : Int)) := fun z hz => by have := HBL.out z hz; omega
              have HO4 : Hid (∀ z ∈ lst wn (go t st ra wn (wf wz) d), 0 ≤ z ∧ z < ((4 : Nat) : Int)) := fun z hz => by
                have := lst_mem (st := st) (fun k => go_lt HTL.out HVL.out d k) z hz; omega
              have HD2 : Hid (Does t st ra wn (wf (lst wn (fun k => conv wn (wf bz) (wf bz) k % st))) (2 * e)) := does_congr (does_twice hpos (by omega) HTL.out HDO.out) fun k hk => by rw [wf_lst hk]
              have HB2L : Hid (∀ z ∈ lst wn (fun k => conv wn (wf bz) (wf bz) k % st), 0 ≤ z ∧ z < (st : Int)) := lst_mem fun k => Nat.mod_lt _ (by omega)
              have HOD : Hid (lst wn (fun k => conv wn (wf (lst wn (go t st ra wn (wf wz) d))) (wf bz) k % st) = lst wn (go t st ra wn (wf wz) (d + e))) := lst_congr fun k hk =>
                does_comp hpos HTL.out HVL.out (wf_lt (by omega) (lst_mem fun k => go_lt HTL.out HVL.out d k)) HDO.out (fun i hi => wf_lst hi) k hk
              have HTW := Lib.hid (fun w2 (hI : Ints.Is w2 ab wn bz) => times_any ab ab wn cb cb st bz bz w2 hI hI (by omega) h4 HL4.out HL4.out (by omega))
              have HTO := Lib.hid (fun w2 (hI : Ints.Is w2 ao wn (lst wn (go t st ra wn (wf wz) d))) (hJ : Ints.Is w2 ab wn bz) => times_any ao ab wn co cb st _ bz w2 hI hJ (by omega) h4 HO4.out HL4.out (by omega))
              rw [HOD.out] at HTO
              have f3 := HR.out.cell 3
              unfold rulL at f3
              dsimp only [List.getElem?_cons_succ, List.getElem?_cons_zero] at f3
              clear HL4 HO4 HOD
              by_cases hodd : nn % 2 = 1
              · have hmod : ((nn : Nat) : Int).tmod 2 = 1 := by
                  have : ((nn : Nat) : Int).tmod 2 = ((nn % 2 : Nat) : Int) := Int.ofNat_tmod _ _
                  rw [this, hodd]; rfl
                have HDN : Hid (d + e + nn / 2 * (2 * e) = n) := by
                  show d + e + nn / 2 * (2 * e) = n
                  have h1 : nn = 2 * (nn / 2) + 1 := by omega
                  have h2 := HDE.out
                  have h3 : nn * e = nn / 2 * (2 * e) + e := by
                    conv => lhs; rw [h1]
                    rw [Nat.add_mul, Nat.one_mul, Nat.mul_comm 2, Nat.mul_assoc]
                  omega
                clear hodd
                generalize nn / 2 = q at *
                go_wp2_with fail
                refine (HTO.out _ HO.out HBY.out).mono ?_
                rintro e6 w6 ⟨⟨g6, rfl, hI6⟩, hb9⟩
                have HO6 := Lib.hid hI6
                have HBY := Lib.hid (HBY.out.keep hb9)
                clear HTO HO hI6 f3
                have HR := Lib.hid (HR.out.keep hb9 HR.out.lt)
                have HB := Lib.hid (HB.out.trans (hb9.mono HB.out.size))
                clear hb9
                have f3 := HR.out.cell 3
                unfold rulL at f3
                dsimp only [List.getElem?_cons_succ, List.getElem?_cons_zero] at f3
                go_wp2_with fail
                refine (HTW.out _ HBY.out).mono ?_
                rintro e7 w7 ⟨⟨g7, rfl, hI7⟩, hb9⟩
                have HB7 := Lib.hid hI7
                have HO6 := Lib.hid (HO6.out.keep hb9)
                clear HTW hI7 f3
                have HR := Lib.hid (HR.out.keep hb9 HR.out.lt)
                have HB := Lib.hid (HB.out.trans (hb9.mono HB.out.size))
                clear hb9
                go_wp2_with fail
                go_roundw
                case rel => exact ⟨q, d + e, 2 * e, some ⟨g6, 0, none⟩, some ⟨g7, 0, none⟩, wn, wn, _, rfl, by omega, HDN.out, rfl, rfl, Nat.le_refl _, HB7.out, HO6.out, fun h => (by cases h), HB2L.out, HD2.out, HR.out, HB.out⟩
                case measure => simp [intOf]; omega
              · have hmod : ((nn : Nat) : Int).tmod 2 = 0 := by
                  have : ((nn : Nat) : Int).tmod 2 = ((nn % 2 : Nat) : Int) := Int.ofNat_tmod _ _
                  rw [this, show nn % 2 = 0 by omega]; rfl
                have HDN : Hid (d + nn / 2 * (2 * e) = n) := by
                  show d + nn / 2 * (2 * e) = n
                  have h1 : nn = 2 * (nn / 2) := by omega
                  have h2 := HDE.out
                  have h3 : nn * e = nn / 2 * (2 * e) := by
                    conv => lhs; rw [h1]
                    rw [Nat.mul_comm 2, Nat.mul_assoc]
                  omega
                clear hodd HTO
                generalize nn / 2 = q at *
                go_wp2_with fail
                refine (HTW.out _ HBY.out).mono ?_
                rintro e7 w7 ⟨⟨g7, rfl, hI7⟩, hb9⟩
                have HB7 := Lib.hid hI7
                have HO6 := Lib.hid (HO.out.keep hb9)
                clear HTW hI7 f3 HO
                have HR := Lib.hid (HR.out.keep hb9 HR.out.lt)
                have HB := Lib.hid (HB.out.trans (hb9.mono HB.out.size))
                clear hb9
                go_wp2_with fail
                go_roundw
                case rel => exact ⟨q, d, 2 * e, ao, some ⟨g7, 0, none⟩, co, wn, _, rfl, by omega, HDN.out, rfl, rfl, hco, HB7.out, HO6.out, HON.out, HB2L.out, HD2.out, HR.out, HB.out⟩
                case measure => simp [intOf]; omega
            · have hz0 : nn = 0 := by omega
              have HDN : Hid (d = n) := by
                have := HDE.out
                rw [hz0, Nat.zero_mul] at this
                exact this
              subst hz0
              have HRG : Hid (lst wn (go t st ra wn (wf wz) d) = runL (wf tz) st ra wz n) := by
                show _ = _
                rw [runL_go (fun z hz => (HZ.out z hz).1) n, HW.out.len, HDN.out, HTE.out]
              go_wp2_with fail
              go_ret2
              exact ⟨⟨ao, co, rfl, hco, by rw [← HRG.out]; exact HO.out, HON.out⟩, HB.out⟩
    · exact absurd hs hno
end Ln
end Go.Proofs.YtahhhbdnhimbfaaDoor
