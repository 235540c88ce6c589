/- PLAIN and WALK: what BlocksBack counts; its runs' faults; one run is another. -/
import Derived.Test.YtmnefdcgknmnjaaBlRF
import Derived.Test.YtmnefdcgknmnjaaBlB
import Derived.Test.YtmnefdcgknmnjaaBlT
import Derived.Test.YtmnefdcgknmnjaaBlA
namespace Go.Proofs.Ytmnefdcgknmnjaa
set_option linter.unusedSimpArgs false
set_option linter.unusedVariables false
open Go.RowKit Go.Lib
namespace Bl
open Tld Mem

theorem sumN_le {f : Nat → Nat} (h : ∀ k, f k ≤ 1) : ∀ n, sumN n f ≤ n
  | 0 => Nat.le_refl _
  | n + 1 => by
    have h1 := sumN_le h n
    have h2 := h n
    unfold sumN; omega
theorem sumN_split (f : Nat → Nat) (a : Nat) : ∀ b, sumN (a + b) f = sumN a f + sumN b (fun i => f (a + i))
  | 0 => rfl
  | b + 1 => by
    have h := sumN_split f a b
    show sumN (a + b) f + f (a + b) = sumN a f + (sumN b (fun i => f (a + i)) + f (a + b))
    omega
theorem sum_flat (W : Nat) (c : Nat → Nat → Nat) : ∀ H, sumN (H * W) (fun k => c (k % W) (k / W)) = total W H c
  | 0 => by simp [sumN, total]
  | H + 1 => by
    have ih := sum_flat W c H
    rw [Nat.succ_mul, sumN_split, ih]
    show _ = total W H c + sumN W (fun x => c x H)
    congr 1
    refine sumN_congr fun x hx => ?_
    rw [at_mod hx, at_div hx]
/-- How many cells live. -/
def cnt (zs : List Int) : Nat := sumN zs.length fun k => (zs.getD k 0).toNat
theorem cnt_flat {W H : Nat} {c : Nat → Nat → Nat} : cnt (flat W H c) = total W H c := by
  unfold cnt
  rw [flat_len, Nat.mul_comm, ← sum_flat]
  refine sumN_congr fun k hk => ?_
  rw [flat_get (by rw [Nat.mul_comm]; exact hk)]
  rfl
theorem flat_01 {W H : Nat} {c : Nat → Nat → Nat} (h : ∀ x y, c x y < 2) : ∀ z ∈ flat W H c, z = 0 ∨ z = 1 := fun z hz => by
  unfold flat at hz
  obtain ⟨k, _, rfl⟩ := List.mem_map.1 hz
  have := h (k % W) (k / W)
  omega
theorem run_congr {t : Nat → Nat} {W H ph : Nat} {c d : Nat → Nat → Nat} (hW : W % 2 = 0) (hH : H % 2 = 0) (h : ∀ x y, x < W → y < H → c x y = d x y) : ∀ n x y, x < W → y < H → run t W H ph c n x y = run t W H ph d n x y
  | 0, x, y, hx, hy => h x y hx hy
  | n + 1, x, y, hx, hy => cellN_congr hW hH (by omega) (fun x y hx hy => run_congr hW hH h n x y hx hy) hx hy
theorem pfault_flat {W H : Nat} {c : Nat → Nat → Nat} (hW : W ≤ 100) (hH : H ≤ 100) (h : ∀ x y, c x y < 2) : pfault W H (flat W H c) = 0 := by
  unfold pfault
  rw [if_neg (by unfold okSides; omega), if_neg (by rw [flat_len]; push_cast; simp), if_neg]
  rw [Bool.not_eq_true, List.any_eq_false]
  intro z hz
  have := flat_01 h z hz
  unfold cbad
  simp
  omega
theorem rfault_ok {tz : List Int} {W H : Nat} {c : Nat → Nat → Nat} {ph m : Nat} (ht : tfault tz = 0) (hW : W ≤ 100) (hH : H ≤ 100) (hW2 : W % 2 = 0) (hH2 : H % 2 = 0) (h : ∀ x y, c x y < 2) (hph : ph ≤ 1) (hm : m ≤ 100000) : rfault tz W H (flat W H c) ph m = 0 := by
  unfold rfault
  rw [if_neg (by simp [ht]), if_neg (by simp [pfault_flat hW hH h]), if_neg (by omega), if_neg (by omega)]
/-- The table of the first question. -/
def fact0 : List Int := [0, 8, 4, 3, 2, 5, 9, 7, 1, 6, 10, 11, 12, 13, 14, 15]
theorem fact0_zero : tfault fact0 = 0 := by decide
theorem fact0_once : Once fact0 16 := by
  have h : ∀ q : Fin 16, ∀ p : Fin 16, p.val < q.val → tN fact0 p.val ≠ tN fact0 q.val := by decide +kernel
  exact fun p q hpq hq => h ⟨q, hq⟩ ⟨p, by omega⟩ hpq
theorem fact0_eight : ((inv fact0 16).map (Value.int .i64))[8]? = some (.int .i64 1) := by
  have h : (inv fact0 16)[8]? = some 1 := by decide +kernel
  rw [List.getElem?_map, h]; rfl
set_option maxHeartbeats 4000000 in
theorem count_any (W H : Int) (a : Option Addr) (n c : Nat) (zs : List Int) (w : World) (hZ : Ints.Is w a n zs) (h01 : ∀ z ∈ zs, z = 0 ∨ z = 1) (hn : n ≤ 10000) :
    Calls Try.prog 7 #[pat W H a n c] w fun e w' => e = .returned (.int .i64 (cnt zs : Nat)) ∧ Below w.heap.size w w' := by
  have HL := Lib.hid hZ.len
  have HZ := Lib.hid hZ.cells
  have H01 := Lib.hid (getD_01 h01)
  have HLE := Lib.hid (sumN_le (f := fun k => (zs.getD k 0).toNat) (fun k => by rcases getD_01 h01 k with e | e <;> rw [e] <;> decide))
  clear hZ h01
  unfold pat
  go_enter Try.func7, Try.ntmps7
  go_wp2_with fail
  obtain ⟨hR, hB⟩ := row_new w W H a n c
  have HR := Lib.hid hR
  have HB := Lib.hid hB
  clear hR hB
  generalize w.alloc (.cells #[.int .i64 W, .int .i64 H, .slice a n c] 24) = w1 at *
  go_loop [3, 4] (fun u v => ∃ i : Nat, i ≤ n ∧ v = .int .i64 i ∧ u = .int .i64 ((sumN i fun k => (zs.getD k 0).toNat : Nat) : Int)) (fun _ v => n - (intOf v).toNat)
  case atStart => exact ⟨0, Nat.zero_le _, rfl, rfl⟩
  case round =>
    obtain ⟨i, hi, rfl, rfl⟩ := hrel
    have f2 := HR.out.cell 2
    unfold boxP at f2
    dsimp only [List.getElem?_cons_succ, List.getElem?_cons_zero] at f2
    by_cases hlt : i < n
    · obtain ⟨b, off, rfl, _, hc⟩ := (HZ.out.keep HB.out) i hlt
      dsimp only at hc
      have hle := HLE.out i
      have h2 := H01.out i
      have HS : Hid ((sumN (i + 1) fun k => (zs.getD k 0).toNat) = (sumN i fun k => (zs.getD k 0).toNat) + (zs.getD i 0).toNat) := rfl
      generalize hs' : (sumN (i + 1) fun k => (zs.getD k 0).toNat) = s' at *
      have HS' := Lib.hid hs'
      clear hs'
      generalize (sumN i fun k => (zs.getD k 0).toNat) = s at *
      generalize zs.getD i 0 = z at *
      have HI : Hid ((s' : Int) = (s : Int) + z) := by
        show (s' : Int) = (s : Int) + z
        rw [HS.out]
        omega
      have hz0 : 0 ≤ z := by omega
      have hz1 : z ≤ 1 := by omega
      clear h2
      go_wp2_with fail
      go_round
      case rel => exact ⟨i + 1, by omega, by go_num, by rw [HS'.out, HI.out]⟩
      case measure => simp [intOf]; omega
    · have e : i = n := by omega
      subst e
      have HF : Hid ((sumN i fun k => (zs.getD k 0).toNat) = cnt zs) := by
        show _ = cnt zs
        unfold cnt
        rw [HL.out]
      rw [HF.out]
      go_wp2
      go_ret
      exact ⟨rfl, HB.out⟩
theorem row_is {w : World} {b n : Nat} {zs : List Int} (h : Row w b 3 (zs.map (Value.int .i64))) (hz : zs.length = n) (hn : n ≤ maxLen) : Ints.Is w (some ⟨b, 0, none⟩) n zs := by
  refine ⟨hz, fun i hi => ⟨b, 0, rfl, h.lt, ?_⟩, hn⟩
  dsimp only
  rw [Nat.zero_add, h.cell, List.getElem?_map, List.getElem?_eq_getElem (by omega), List.getD_eq_getElem?_getD, List.getElem?_eq_getElem (by omega)]
  rfl
/-- Run and Turn of a grid. -/
theorem run_flat (ta : Option Addr) (tn tc : Nat) (tz : List Int) (W H : Nat) (a : Option Addr) (n c : Nat) (cf : Nat → Nat → Nat) (ph m : Nat) (w : World) (hT : Ints.Is w ta tn tz) (ht : tfault tz = 0) (hP : Ints.Is w a n (flat W H cf)) (hnil : a = none → n = 0) (hn : n = W * H)
    (hW : W ≤ 100) (hH : H ≤ 100) (hW2 : W % 2 = 0) (hH2 : H % 2 = 0) (hc : ∀ x y, cf x y < 2) (hph : ph ≤ 1) (hm : m ≤ 100000) :
    Calls Try.prog 5 #[.slice ta tn tc, .agg #[.int .i64 W, .int .i64 H, .slice a n c], .int .i64 ph, .int .i64 m] w fun e w' =>
      (∃ a' c', e = .returned (.tuple #[.agg #[.int .i64 W, .int .i64 H, .slice a' n c'], .nilIface]) ∧ (a' = none → n = 0) ∧ Ints.Is w' a' n (flat W H (run (tN tz) W H ph cf m))) ∧ Below w.heap.size w w' := by
  have hf : rfault tz W H (flat W H cf) ph m = 0 := rfault_ok ht hW hH hW2 hH2 hc hph hm
  have hn1 : W * H ≤ maxLen := by
    have : W * H ≤ 100 * 100 := Nat.mul_le_mul hW hH
    unfold maxLen; omega
  refine (run_any ta tn tc tz W H a n c (flat W H cf) ph m w hT hP hnil).mono ?_
  rintro e w' ⟨⟨h1, _⟩ | ⟨_, a', c', g, rfl, _, h3, h4⟩, h5⟩
  · exact absurd hf h1
  · refine ⟨⟨a', c', rfl, h3, ?_⟩, h5⟩
    simp only [Int.toNat_natCast] at h4
    have h6 := h4.is hn1
    rw [← hn, flat_congr (d := run (tN tz) W H ph cf m) (fun x y hx hy => run_congr hW2 hH2 (fun x y hx hy => cel_flat hx hy) m x y hx hy)] at h6
    exact h6
theorem turn_flat (W H : Nat) (a : Option Addr) (n c : Nat) (cf : Nat → Nat → Nat) (w : World) (hP : Ints.Is w a n (flat W H cf)) (hn : n = W * H) (hW : W ≤ 100) (hH : H ≤ 100) (hc : ∀ x y, cf x y < 2) :
    Calls Try.prog 9 #[.agg #[.int .i64 W, .int .i64 H, .slice a n c], .int .i64 1] w fun e w' => (∃ a' c', e = .returned (.agg #[.int .i64 H, .int .i64 W, .slice a' n c']) ∧ (a' = none → n = 0) ∧ Ints.Is w' a' n (flat H W (turnC H cf))) ∧ Below w.heap.size w w' := by
  refine (turn_any W H a n c (flat W H cf) w hn hW hH hP.len (flat_01 hc) hP.cells).mono ?_
  rintro e w' ⟨⟨a', c', rfl, h1, h2⟩, h3⟩
  refine ⟨⟨a', c', rfl, h2, ?_⟩, h3⟩
  rw [← flat_congr (c := turnC H (cel (flat W H cf) W)) (d := turnC H cf)]
  · exact h1
  · intro x y hx hy
    unfold turnC
    exact cel_flat hy (by omega)
theorem turnC_lt {H : Nat} {c : Nat → Nat → Nat} (h : ∀ x y, c x y < 2) (x y : Nat) : turnC H c x y < 2 := h _ _
theorem alike_flat (W H : Nat) (a1 : Option Addr) (n c1 : Nat) (z1 : List Int) (a2 : Option Addr) (c2 : Nat) (z2 : List Int) (w : World) (h1 : Ints.Is w a1 n z1) (h2 : Ints.Is w a2 n z2) (e : z1 = z2) :
    Calls Try.prog 10 #[.agg #[.int .i64 W, .int .i64 H, .slice a1 n c1], .agg #[.int .i64 W, .int .i64 H, .slice a2 n c2]] w fun e w' => e = .returned (.bool true) ∧ Below w.heap.size w w' := by
  refine (alike_any W H a1 n c1 z1 W H a2 n c2 z2 w h1 h2).mono ?_
  rintro e' w' ⟨rfl, hb⟩
  refine ⟨?_, hb⟩
  rw [show decide (z1 = z2 ∧ (W : Int) = W ∧ (H : Int) = H) = true from by simp [e]]
/-- What can be undone is undone. -/
theorem undone {tz : List Int} {W H ph m : Nat} {cf : Nat → Nat → Nat} (ht : tfault tz = 0) (ho : Once tz 16) (hW : W % 2 = 0) (hH : H % 2 = 0) (hc : ∀ x y, cf x y < 2) :
    flat W H (run (tN (inv tz 16)) W H ((ph + m + 1) % 2) (run (tN tz) W H ph cf m) m) = flat W H cf := by
  have hb := (tfault_zero ht).2
  exact flat_congr fun x y hx hy => run_undone hW hH hc (fun b _ => tN_lt hb b) (fun b h => inv_at ho h (tN_lt hb b)) hx hy
theorem kept {tz : List Int} {W H ph m : Nat} {cf : Nat → Nat → Nat} (ht : tfault tz = 0) (hk : keepsB tz = true) (hW : W % 2 = 0) (hH : H % 2 = 0) (hc : ∀ x y, cf x y < 2) :
    cnt (flat W H (run (tN tz) W H ph cf m)) = cnt (flat W H cf) := by
  have hb := (tfault_zero ht).2
  have hk' : ∀ b, b < 16 → pc (tN tz b) = pc b := by unfold keepsB at hk; exact @of_decide_eq_true _ (Classical.propDecidable _) hk
  rw [cnt_flat, cnt_flat]
  exact run_keeps hW hH hc (fun b _ => tN_lt hb b) hk' m
theorem turned {tz : List Int} {W H ph m : Nat} {cf : Nat → Nat → Nat} (hk : turnsB tz = true) (hW : W % 2 = 0) (hH : H % 2 = 0) (hc : ∀ x y, cf x y < 2) :
    flat H W (run (tN tz) H W ph (turnC H cf) m) = flat H W (turnC H (run (tN tz) W H ph cf m)) := by
  have hk' : ∀ b, b < 16 → tN tz (trn b) = trn (tN tz b) := by unfold turnsB at hk; exact @of_decide_eq_true _ (Classical.propDecidable _) hk
  exact flat_congr fun x y hx hy => run_turn hW hH hc hk' m x y hx hy
end Bl
end Go.Proofs.Ytmnefdcgknmnjaa
