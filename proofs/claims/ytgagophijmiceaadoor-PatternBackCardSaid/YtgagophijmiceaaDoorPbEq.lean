/- Several texts laid together: PnLa PbEq. -/
import Derived.Test.YtgagophijmiceaaDoorPnV
import Derived.Test.YtgagophijmiceaaDoorInts
import Derived.Test.YtgagophijmiceaaDoorPrR
import Derived.Test.YtgagophijmiceaaDoorPrD
import Derived.Test.YtgagophijmiceaaDoorPbDr
import Derived.Test.YtgagophijmiceaaDoorPbTn
import Derived.Test.YtgagophijmiceaaDoorPwRuns
import Derived.Test.YtgagophijmiceaaDoorPwDw
import Derived.Test.YtgagophijmiceaaDoorPwCn
import Derived.Test.YtgagophijmiceaaDoorPnK
/- WALK: edenref1.Alike; the closed fact of the laws of planes. -/
namespace Go.Proofs.YtgagophijmiceaaDoor
set_option linter.unusedSimpArgs false
set_option linter.unusedVariables false
open Go.RowKit Go.Lib
namespace Pn
open Tld Mem Bl

set_option maxHeartbeats 4000000 in
theorem alike_any (W1 H1 : Int) (a1 : Option Addr) (n1 c1 : Nat) (z1 : List Int) (W2 H2 : Int) (a2 : Option Addr) (n2 c2 : Nat) (z2 : List Int) (w : World) (h1 : Ints.Is w a1 n1 z1) (h2 : Ints.Is w a2 n2 z2) :
    Calls Tryd.prog 13 #[pat W1 H1 a1 n1 c1, pat W2 H2 a2 n2 c2] w fun e w' => e = .returned (.bool (decide (z1 = z2 ∧ W1 = W2 ∧ H1 = H2))) ∧ Below w.heap.size w w' := by
  have HI := Lib.hid (fun w2 : World => fun hb : Below w.heap.size w w2 => Ints.ints_any a1 a2 n1 n2 c1 c2 z1 z2 w2 (h1.keep hb) (h2.keep hb))
  clear h1 h2
  unfold pat
  obtain ⟨q, hq⟩ : ∃ q, q = decide (z1 = z2) := ⟨_, rfl⟩
  have HR : Hid (decide (z1 = z2 ∧ W1 = W2 ∧ H1 = H2) = (q && (decide (W1 = W2) && decide (H1 = H2)))) := by
    show _ = _
    rw [hq, Bool.decide_and, Bool.decide_and]
  rw [← hq] at HI
  clear hq
  have hd : q = false ∨ (q = true ∧ W1 ≠ W2) ∨ (q = true ∧ W1 = W2 ∧ H1 ≠ H2) ∨ (q = true ∧ W1 = W2 ∧ H1 = H2) := by
    cases q
    · exact .inl rfl
    · by_cases h1 : W1 = W2
      · by_cases h2 : H1 = H2
        · exact .inr (.inr (.inr ⟨rfl, h1, h2⟩))
        · exact .inr (.inr (.inl ⟨rfl, h1, h2⟩))
      · exact .inr (.inl ⟨rfl, h1⟩)
  obtain ⟨b, hb⟩ : ∃ b, b = (q && (decide (W1 = W2) && decide (H1 = H2))) := ⟨_, rfl⟩
  rw [← hb] at HR
  have HB := Lib.hid hb
  clear hb
  rcases hd with rfl | ⟨rfl, hw⟩ | ⟨rfl, rfl, hh⟩ | ⟨rfl, rfl, rfl⟩
  all_goals
    first | (have hw2 : (W1 == W2) = false := by rw [beq_eq_false_iff_ne]; exact hw) | skip
    first | (have hh2 : (H1 == H2) = false := by rw [beq_eq_false_iff_ne]; exact hh) | skip
    go_enter Tryd.func13, Tryd.ntmps13
    go_wp2_with fail
    refine (HI.out _ (((Below.refl _ _).alloc (Nat.le_refl _) _).alloc (by simp) _)).mono ?_
    rintro e1 w1 ⟨rfl, hb1⟩
    obtain ⟨hR2, hR3, hB⟩ := two_new w 35 35 (boxP _ _ a1 n1 c1) (boxP _ _ a2 n2 c2)
    have hR2' := hR2.keep hb1 hR2.lt
    have hR3' := hR3.keep hb1 hR3.lt
    have HBE := Lib.hid (hB.trans (hb1.mono hB.size))
    clear hR2 hR3 hb1 hB
    have f0 := hR2'.cell 0
    have f1 := hR2'.cell 1
    have g0 := hR3'.cell 0
    have g1 := hR3'.cell 1
    unfold boxP at f0 f1 g0 g1
    dsimp only [List.getElem?_cons_succ, List.getElem?_cons_zero] at f0 f1 g0 g1
    clear hR2' hR3'
    go_wp2_with fail
    go_ret
    refine ⟨?_, HBE.out⟩
    rw [HR.out, HB.out]
    simp [*]

def thr : Nat → Nat → Nat := fun _ _ => 1
end Pn
end Go.Proofs.YtgagophijmiceaaDoor

/- WRITTEN AND READ: what the law's calls come to. -/
namespace Go.Proofs.YtgagophijmiceaaDoor
set_option linter.unusedSimpArgs false
set_option linter.unusedVariables false
open Go.RowKit
namespace Pr
open Tld Mem Bl Pn Pw Rd

theorem pfault_lies {W H : Nat} {c : Nat → Nat → Nat} (hW : W ≤ 100) (hH : H ≤ 100) (h : ∀ x y, c x y < 2) : pfault W H (flat W H c) = 0 := by
  unfold pfault
  have h1 : okSides (W : Int) (H : Int) := by unfold okSides; omega
  have h2 : ((flat W H c).length : Int) = (W : Int) * (H : Int) := by rw [flat_len]; push_cast; rfl
  have h3 : ¬ (flat W H c).any cbad = true := by
    rw [Bool.not_eq_true, List.any_eq_false]
    intro z hz
    unfold flat at hz
    obtain ⟨k, _, rfl⟩ := List.mem_map.1 hz
    have := h (k % W) (k / W)
    unfold cbad
    simp
    omega
  rw [if_neg (fun x => x h1), if_neg (fun x => x h2), if_neg h3]
theorem turned_lt {W H k : Nat} {f : Nat → Nat → Nat} (hf : ∀ x y, f x y < 2) (x y : Nat) : tF W H f k x y < 2 := by
  have hq : ∀ (g : Nat → Nat → Nat), (∀ x y, g x y < 2) → ∀ j x y, qF W H g j x y < 2 := fun g hg j => by
    induction j with
    | zero => exact hg
    | succ j ih => exact fun x y => ih _ _
  unfold tF
  refine hq _ ?_ _ _ _
  split
  · exact fun x y => hf _ _
  · exact hf
/-- The text of the closed fact. -/
def factL : List UInt8 := [120, 32, 61, 32, 50, 44, 32, 121, 32, 61, 32, 49, 10, 98, 111, 33, 10]
theorem fact_runs : factL = runsS 2 1 fun x _ => if x = 1 then 1 else 0 := by
  have d1 : Lib.decDigits 1 = [49] := by rw [Lib.decDigits]; rfl
  have d2 : Lib.decDigits 2 = [50] := by rw [Lib.decDigits]; rfl
  unfold runsS headS
  rw [d1, d2]
  rfl
theorem fact_any (w : World) : Calls Tryd.prog 11 #[.string ⟨#[120, 32, 61, 32, 50, 44, 32, 121, 32, 61, 32, 49, 10, 98, 111, 33, 10]⟩] w fun e w' => (∃ a' c', e = .returned (.tuple #[.agg #[.int .i64 2, .int .i64 1, .slice a' 2 c'], .int .i64 0, .nilIface]) ∧ Ints.Is w' a' 2 [0, 1]) ∧ Below w.heap.size w w' := by
  refine (pruns_any ⟨#[120, 32, 61, 32, 50, 44, 32, 121, 32, 61, 32, 49, 10, 98, 111, 33, 10]⟩ w (by decide)).mono ?_
  rintro e w' ⟨hp, hb⟩
  refine ⟨?_, hb⟩
  unfold PrP at hp
  have e1 : (ByteArray.mk #[120, 32, 61, 32, 50, 44, 32, 121, 32, 61, 32, 49, 10, 98, 111, 33, 10]).data.toList = factL := rfl
  rw [e1, fact_runs, parse_runs (by decide) (by decide) (fun x y => by split <;> decide)] at hp
  obtain ⟨g, N2, he, hv, hg⟩ := hp
  refine ⟨_, N2, he, ?_⟩
  have := hv.is (by decide)
  rw [upto_all] at this
  exact this
theorem read_runs (W H : Nat) (f : Nat → Nat → Nat) (w : World) (hW : W ≤ 100) (hH : H ≤ 100) (hf : ∀ x y, f x y < 2) : Calls Tryd.prog 11 #[.string ⟨(runsS W H f).toArray⟩] w fun e w' =>
    (∃ a' n' c', e = .returned (.tuple #[.agg #[.int .i64 (W : Nat), .int .i64 (H : Nat), .slice a' n' c'], .int .i64 0, .nilIface]) ∧ Ints.Is w' a' n' (flat W H f)) ∧ Below w.heap.size w w' := by
  have hl := runsS_len (f := f) hW hH
  have hmul : W * H ≤ 100 * 100 := Nat.mul_le_mul hW hH
  refine (pruns_any ⟨(runsS W H f).toArray⟩ w (by rw [Lib.size_eq]; simp; omega)).mono ?_
  rintro e w' ⟨hp, hb⟩
  refine ⟨?_, hb⟩
  unfold PrP at hp
  have e1 : (ByteArray.mk (runsS W H f).toArray).data.toList = runsS W H f := rfl
  rw [e1, parse_runs hW hH hf] at hp
  obtain ⟨g, N2, he, hv, hg⟩ := hp
  refine ⟨_, _, N2, he, ?_⟩
  have := hv.is (by unfold maxLen; omega)
  rw [upto_all] at this
  exact this
theorem read_draw (W H : Nat) (f : Nat → Nat → Nat) (w : World) (hU : UTabs w) (hM : Marks w) (hW : W ≤ 100) (hH : H ≤ 100) (hf : ∀ x y, f x y < 2) : Calls Tryd.prog 14 #[.string ⟨(drawS W H f).toArray⟩] w fun e w' =>
    (∃ a' n' c', e = .returned (.tuple #[.agg #[.int .i64 ((if H = 0 then 0 else W : Nat) : Nat), .int .i64 (H : Nat), .slice a' n' c'], .int .i64 0, .nilIface]) ∧ Ints.Is w' a' n' (flat W H f) ∧ ∀ b o, a' = some ⟨b, o, none⟩ → n' ≠ 0 → w.heap.size ≤ b) ∧ Below w.heap.size w w' := by
  have hl := drB_len W f (H * (W + 1))
  have hm : H * (W + 1) ≤ 100 * 101 := Nat.mul_le_mul hH (by omega)
  refine (pdraw_any ⟨(drawS W H f).toArray⟩ w (by rw [Lib.size_eq]; unfold drawS; simp; omega) hU hM).mono ?_
  rintro e w' ⟨hp, hb⟩
  refine ⟨?_, hb⟩
  unfold DrP at hp
  have e1 : (ByteArray.mk (drawS W H f).toArray).data.toList = drawS W H f := rfl
  rw [e1, parse_draw hW hH hf] at hp
  obtain ⟨vs, he, ho⟩ := hp
  obtain ⟨a', c', rfl, _, _, hi, hbl⟩ := own_is ho
  have e2 : lstN (H * W) (upto f W H 0) = flat W H f := by rw [Nat.mul_comm]; exact upto_all
  rw [e2] at hi
  exact ⟨a', _, c', he, hi, fun b o e _ => hbl b o e⟩
set_option maxRecDepth 1000000 in
theorem back_any (W1 H1 : Int) (a1 : Option Addr) (n1 c1 : Nat) (z1 : List Int) (W2 H2 : Int) (a2 : Option Addr) (n2 c2 : Nat) (z2 : List Int) (w : World) (h1 : Ints.Is w a1 n1 z1) (h2 : Ints.Is w a2 n2 z2) :
    Calls Tryd.prog 28 #[.agg #[.int .i64 W1, .int .i64 H1, .slice a1 n1 c1], .agg #[.int .i64 W2, .int .i64 H2, .slice a2 n2 c2], .nilIface] w fun e w' => e = .returned (.bool (decide (z1 = z2 ∧ W1 = W2 ∧ H1 = H2))) ∧ Below w.heap.size w w' := by
  have K := Lib.hid (fun w2 (h : Below w.heap.size w w2) => alike_any W1 H1 a1 n1 c1 z1 W2 H2 a2 n2 c2 z2 w2 (h1.keep h) (h2.keep h))
  clear h1 h2
  generalize decide (z1 = z2 ∧ W1 = W2 ∧ H1 = H2) = r at *
  go_enter Tryd.func28, Tryd.ntmps28
  go_upto_region 1 with fail
  obtain ⟨hr5, hr8, hb2⟩ := two_new w 35 35 (boxP W1 H1 a1 n1 c1) (boxP W2 H2 a2 n2 c2)
  have HR5 : Hid (Row ((w.alloc (.cells #[.int .i64 W1, .int .i64 H1, .slice a1 n1 c1] 35)).alloc (.cells #[.int .i64 W2, .int .i64 H2, .slice a2 n2 c2] 35)) w.heap.size 35 (boxP W1 H1 a1 n1 c1)) := Lib.hid hr5
  have HR8 : Hid (Row ((w.alloc (.cells #[.int .i64 W1, .int .i64 H1, .slice a1 n1 c1] 35)).alloc (.cells #[.int .i64 W2, .int .i64 H2, .slice a2 n2 c2] 35)) (w.heap.size + 1) 35 (boxP W2 H2 a2 n2 c2)) := Lib.hid hr8
  have HB : Hid (Below w.heap.size w ((w.alloc (.cells #[.int .i64 W1, .int .i64 H1, .slice a1 n1 c1] 35)).alloc (.cells #[.int .i64 W2, .int .i64 H2, .slice a2 n2 c2] 35))) := Lib.hid hb2
  clear hr5 hr8 hb2
  generalize (w.alloc (.cells #[.int .i64 W1, .int .i64 H1, .slice a1 n1 c1] 35)).alloc (.cells #[.int .i64 W2, .int .i64 H2, .slice a2 n2 c2] 35) = w1 at *
  obtain ⟨gb, hgb⟩ : ∃ gb, gb = w.heap.size := ⟨_, rfl⟩
  rw [← hgb] at HR5 HR8 ⊢
  obtain ⟨rb, hrb⟩ : ∃ rb, rb = gb + 1 := ⟨_, rfl⟩
  rw [← hrb] at HR8 ⊢
  have l0 := row_range HR5.out
  have l1 := row_range HR8.out
  go_wp2_with (first | (refine wpList_load_mid rfl 35 _ rfl gb 0 rfl _ _ l0 Tryd.underlying35 rfl infoPat ?_) | (refine wpList_load_mid rfl 35 _ rfl rb 0 rfl _ _ l1 Tryd.underlying35 rfl infoPat ?_))
  refine (K.out w1 HB.out).mono ?_
  rintro e2 w2 ⟨rfl, hb2⟩
  have HB := Lib.hid (HB.out.trans (hb2.mono HB.out.size))
  clear hb2 l0 l1
  go_wp2_with fail
  go_ret
  exact ⟨by simp, HB.out⟩
theorem alike_same (W1 H1 : Int) (a1 : Option Addr) (n1 c1 : Nat) (a2 : Option Addr) (n2 c2 : Nat) (zs : List Int) (w : World) (h1 : Ints.Is w a1 n1 zs) (h2 : Ints.Is w a2 n2 zs) :
    Calls Tryd.prog 13 #[.agg #[.int .i64 W1, .int .i64 H1, .slice a1 n1 c1], .agg #[.int .i64 W1, .int .i64 H1, .slice a2 n2 c2]] w fun e w' => e = .returned (.bool true) ∧ Below w.heap.size w w' :=
  (alike_any W1 H1 a1 n1 c1 zs W1 H1 a2 n2 c2 zs w h1 h2).mono fun e w' h => ⟨by rw [h.1, decide_eq_true ⟨rfl, rfl, rfl⟩], h.2⟩
theorem back_same (W1 H1 : Int) (a1 : Option Addr) (n1 c1 : Nat) (a2 : Option Addr) (n2 c2 : Nat) (zs : List Int) (w : World) (h1 : Ints.Is w a1 n1 zs) (h2 : Ints.Is w a2 n2 zs) :
    Calls Tryd.prog 28 #[.agg #[.int .i64 W1, .int .i64 H1, .slice a1 n1 c1], .agg #[.int .i64 W1, .int .i64 H1, .slice a2 n2 c2], .nilIface] w fun e w' => e = .returned (.bool true) ∧ Below w.heap.size w w' :=
  (back_any W1 H1 a1 n1 c1 zs W1 H1 a2 n2 c2 zs w h1 h2).mono fun e w' h => ⟨by rw [h.1, decide_eq_true ⟨rfl, rfl, rfl⟩], h.2⟩
theorem back_other (W1 H1 : Int) (a1 : Option Addr) (n1 c1 : Nat) (W2 : Int) (hne : W1 ≠ W2) (a2 : Option Addr) (n2 c2 : Nat) (zs : List Int) (w : World) (h1 : Ints.Is w a1 n1 zs) (h2 : Ints.Is w a2 n2 zs) :
    Calls Tryd.prog 28 #[.agg #[.int .i64 W1, .int .i64 H1, .slice a1 n1 c1], .agg #[.int .i64 W2, .int .i64 H1, .slice a2 n2 c2], .nilIface] w fun e w' => e = .returned (.bool false) ∧ Below w.heap.size w w' :=
  (back_any W1 H1 a1 n1 c1 zs W2 H1 a2 n2 c2 zs w h1 h2).mono fun e w' h => ⟨by rw [h.1, decide_eq_false (fun x => hne x.2.1)], h.2⟩
/-- A turned pattern, turned back. -/
theorem turn_again (W H k : Nat) (n : Nat) (f : Nat → Nat → Nat) (hn : n = W * H) (hW : W ≤ 100) (hH : H ≤ 100) (hf : ∀ x y, f x y < 2) (hk : k < 8) (a2 : Option Addr) (c2 : Nat) (w : World) (hi : Ints.Is w a2 n (flat (qW W H (k % 4)) (qH W H (k % 4)) (tF W H f k))) :
    Calls Tryd.prog 22 #[.agg #[.int .i64 (qW W H (k % 4) : Nat), .int .i64 (qH W H (k % 4) : Nat), .slice a2 n c2], .int .i64 (invT k : Nat)] w fun e w' => (∃ a' n' c', e = .returned (.tuple #[.agg #[.int .i64 (W : Nat), .int .i64 (H : Nat), .slice a' n' c'], .nilIface]) ∧ Ints.Is w' a' n' (flat W H f)) ∧ Below w.heap.size w w' := by
  have hq := q_le hW hH (k % 4)
  have hp2 := pfault_lies (c := tF W H f k) hq.1 hq.2 (turned_lt hf)
  refine (Turn_ok (qW W H (k % 4)) (qH W H (k % 4)) (invT k) a2 n c2 (tF W H f k) w hi (by rw [q_mul]; exact hn) (by omega) (by omega) (invT_lt hk) hp2).mono ?_
  rintro e w' ⟨⟨a', c', he, _, _, h2, _⟩, h3⟩
  obtain ⟨e1, e2, e3⟩ := turn_back (W := W) (H := H) (f := f) hk
  rw [e1, e2] at he
  rw [e3] at h2
  exact ⟨⟨a', n, c', he, h2⟩, h3⟩
/-- What is left of a pattern, if it is one at all, has a first turn, and it is that of what is left of the turned one. -/
theorem canon_two (W H k : Nat) (a : Option Addr) (n c : Nat) (f : Nat → Nat → Nat) (w : World) (hZ : Ints.Is w a n (flat W H f)) (hn : n = W * H) (hc : n ≤ c) (hW : W ≤ 100) (hH : H ≤ 100) (hf : ∀ x y, f x y < 2) (hk : k < 8) :
    ∃ W1 H1 : Nat, ∃ z1 : List Int,
      (∀ w2, Below w.heap.size w w2 → Calls Tryd.prog 21 #[.agg #[.int .i64 W, .int .i64 H, .slice a n c]] w2 fun e w' => (∃ a' n' c', e = .returned (.tuple #[.agg #[.int .i64 (W1 : Nat), .int .i64 (H1 : Nat), .slice a' n' c'], .nilIface]) ∧ Ints.Is w' a' n' z1) ∧ Below w2.heap.size w2 w') ∧
      (∀ w2 a2 c2, Ints.Is w2 a2 n (flat (qW W H (k % 4)) (qH W H (k % 4)) (tF W H f k)) → n ≤ c2 → Calls Tryd.prog 21 #[.agg #[.int .i64 (qW W H (k % 4) : Nat), .int .i64 (qH W H (k % 4) : Nat), .slice a2 n c2]] w2 fun e w' => (∃ a' n' c', e = .returned (.tuple #[.agg #[.int .i64 (W1 : Nat), .int .i64 (H1 : Nat), .slice a' n' c'], .nilIface]) ∧ Ints.Is w' a' n' z1) ∧ Below w2.heap.size w2 w') := by
  have hp := pfault_lies hW hH hf
  have hq := q_le hW hH (k % 4)
  have hp2 := pfault_lies (c := tF W H f k) hq.1 hq.2 (turned_lt hf)
  obtain ⟨W', H', X, Y, f', ht⟩ := trimmed_some W H f
  refine ⟨qW W' H' (canK W' H' f' 7 % 4), qH W' H' (canK W' H' f' 7 % 4), flat (qW W' H' (canK W' H' f' 7 % 4)) (qH W' H' (canK W' H' f' 7 % 4)) (tF W' H' f' (canK W' H' f' 7)), ?_, ?_⟩
  · intro w2 hb
    refine (Canon_ok W H a n c f w2 (hZ.keep hb) hn hc hW hH hf hp).mono ?_
    rintro e w' ⟨⟨W', H', X, Y, f', a', n', c', h1, _, he, h2⟩, h3⟩
    obtain ⟨rfl, rfl, rfl, rfl, hff⟩ := trimmed_one ht h1
    have hk := canK_congr hff 7
    rw [← hk] at he h2
    exact ⟨⟨a', n', c', he, by rw [tF_congr hff]; exact h2⟩, h3⟩
  · intro w2 a2 c2 hi hc2
    refine (Canon_ok (qW W H (k % 4)) (qH W H (k % 4)) a2 n c2 (tF W H f k) w2 hi (by rw [q_mul]; exact hn) hc2 hq.1 hq.2 (turned_lt hf) hp2).mono ?_
    rintro e w' ⟨⟨W2, H2, X2, Y2, g, a', n', c', h1, _, he, h2⟩, h3⟩
    obtain ⟨X3, Y3, g3, h4, h5⟩ := TrimS.turn (⟨X, Y, f', ht, fun _ _ _ _ => rfl⟩ : TrimS W H f W' H' f') k
    obtain ⟨e1, e2, _, _, hff⟩ := trimmed_one h1 h4
    obtain ⟨g1, g2, g3⟩ := canK_turn (f := f') (g := g) hk e1 e2 (fun x y hx hy => (hff x y hx hy).trans (h5 x y (by omega) (by omega)))
    rw [g1, g2] at he
    rw [g3] at h2
    exact ⟨⟨a', n', c', he, h2⟩, h3⟩
end Pr
end Go.Proofs.YtgagophijmiceaaDoor
