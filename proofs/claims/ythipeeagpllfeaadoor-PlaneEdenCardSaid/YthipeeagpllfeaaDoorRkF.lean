/- WALK: edenref1.power, edenref1.Fault: what is wrong with a rule, by the document. -/
import Derived.Test.YthipeeagpllfeaaDoorRkC
import Derived.Deep.RegionWith
namespace Go.Proofs.YthipeeagpllfeaaDoor
set_option linter.unusedSimpArgs false
set_option linter.unusedVariables false
open Go.RowKit
namespace Ln
open Tld Mem

theorem row_rule (w : World) (K B S st ra : Int) (ta : Option Addr) (tn tc : Nat) (tu : ByteArray) : Row (w.alloc (.cells #[.int .i64 K, .int .i64 B, .int .i64 S, .int .i64 st, .int .i64 ra, .slice ta tn tc, .string tu] 24)) w.heap.size 24 (rulL K B S st ra ta tn tc tu) ∧ Below w.heap.size w (w.alloc (.cells #[.int .i64 K, .int .i64 B, .int .i64 S, .int .i64 st, .int .i64 ra, .slice ta tn tc, .string tu] 24)) :=
  ⟨row_alloc w _ _, (Below.refl _ _).alloc (Nat.le_refl _) _⟩
/-- What edenref1.power gives. -/
def p5 (a n : Nat) : Nat := if 4096 < a ^ n then 5000 else a ^ n
theorem p5_stop {a n i : Nat} (ha : 1 ≤ a) (hi : i ≤ n) (h : 4096 < a ^ i) : p5 a n = 5000 := by
  have := Nat.pow_le_pow_right (n := a) ha hi
  unfold p5
  rw [if_pos (by omega)]
theorem p5_end {a n : Nat} (h : a ^ n ≤ 4096) : p5 a n = a ^ n := by
  unfold p5
  rw [if_neg (by omega)]
set_option maxHeartbeats 1000000 in
theorem power1_any {a n : Nat} (h1 : 1 ≤ a) (h4 : a ≤ 4) (hn : n ≤ 100000) (w : World) : Calls Tryd.prog 23 #[.int .i64 a, .int .i64 n] w fun e w' => e = .returned (.int .i64 (p5 a n : Nat)) ∧ w' = w := by
  go_enter Tryd.func23, Tryd.ntmps23
  go_wp2_with fail
  go_loop [5, 6] (fun u v => ∃ i : Nat, i ≤ n ∧ v = .int .i64 i ∧ u = .int .i64 (a ^ i : Nat) ∧ a ^ i ≤ 4096) (fun _ v => n - (intOf v).toNat)
  case atStart => exact ⟨0, Nat.zero_le _, rfl, rfl, by simp⟩
  case round =>
    obtain ⟨i, hi, rfl, rfl, hle⟩ := hrel
    by_cases hlt : i < n
    · have HN : Hid (a ^ (i + 1) = a ^ i * a) := Nat.pow_succ a i
      have HS : Hid (4096 < a ^ (i + 1) → p5 a n = 5000) := fun h => p5_stop h1 (by omega) h
      have hm : a ^ i * a ≤ 16384 := Nat.le_trans (Nat.mul_le_mul hle h4) (by decide)
      generalize hq : a ^ (i + 1) = q at *
      have HQ := Lib.hid hq
      clear hq
      generalize a ^ i = p at *
      have hw : IntKind.i64.wrap ((p : Int) * (a : Int)) = (q : Int) := by
        rw [HN.out, show ((p : Int) * (a : Int)) = ((p * a : Nat) : Int) from by push_cast; rfl, IntKind.wrap_i64]; omega
      have hm2 : q ≤ 16384 := by rw [HN.out]; exact hm
      clear hm
      by_cases hp : 4096 < q
      · go_wp2_with fail
        go_ret
        exact ⟨by rw [HS.out hp]; rfl, rfl⟩
      · go_wp2_with fail
        go_round
        case rel => exact ⟨i + 1, by omega, by go_num, by rw [HQ.out], by rw [HQ.out]; omega⟩
        case measure => simp [intOf]; omega
    · have e : i = n := by omega
      subst e
      have HE := Lib.hid (p5_end hle)
      generalize a ^ i = p at *
      go_wp2_with fail
      go_ret
      exact ⟨congrArg (fun z : Nat => Ending.returned (.int .i64 z)) HE.out.symm, rfl⟩
theorem turnsB_iff {s : ByteArray} : turnsB s = true ↔ (1 ≤ s.size ∧ s.size ≤ 26) ∧ isLR s = true := by
  unfold turnsB
  rw [Bool.and_eq_true, decide_eq_true_iff]
theorem isLR_no {s : ByteArray} {i : Nat} (hi : i < s.size) (h1 : s.data.toList.getD i 0 ≠ 76) (h2 : s.data.toList.getD i 0 ≠ 82) : isLR s = true → False := fun h => by
  unfold isLR at h
  rw [List.all_eq_true] at h
  have hl : i < s.data.toList.length := by rw [← Lib.size_eq]; exact hi
  have h3 := h (s.data.toList.getD i 0) (by rw [List.getD_eq_getElem?_getD, List.getElem?_eq_getElem hl]; exact List.getElem_mem hl)
  rw [Bool.or_eq_true, beq_iff_eq, beq_iff_eq] at h3
  exact h3.elim h1 h2
theorem byte_at {s : ByteArray} {i : Nat} (h : i < s.size) : (s[i]'h) = s.data.toList.getD i 0 := by
  rw [List.getD_eq_getElem?_getD, Array.getElem?_toList, Array.getElem?_eq_getElem (show i < s.data.size from h)]
  rfl
theorem letters_no {s : ByteArray} {i : Nat} (h : i < s.size) (h1 : ¬ (((s[i]'h).toNat : Nat) : Int) = 76) (h2 : ¬ (((s[i]'h).toNat : Nat) : Int) = 82) : isLR s = true → False :=
  isLR_no h (fun e => h1 (by rw [byte_at h, e]; rfl)) (fun e => h2 (by rw [byte_at h, e]; rfl))
theorem letters_next {s : ByteArray} {i : Nat} (h : i < s.size) (hok : ∀ j, j < i → s.data.toList.getD j 0 = 76 ∨ s.data.toList.getD j 0 = 82) (h1 : (((s[i]'h).toNat : Nat) : Int) = 76 ∨ (((s[i]'h).toNat : Nat) : Int) = 82) : ∀ j, j < i + 1 → s.data.toList.getD j 0 = 76 ∨ s.data.toList.getD j 0 = 82 := fun j hj => by
  by_cases e : j = i
  · subst e
    rw [← byte_at h]
    rcases h1 with h1 | h1
    · exact .inl (UInt8.toNat_inj.1 (by show _ = 76; omega))
    · exact .inr (UInt8.toNat_inj.1 (by show _ = 82; omega))
  · exact hok j (by omega)
theorem isLR_all {s : ByteArray} (h : ∀ i, i < s.size → s.data.toList.getD i 0 = 76 ∨ s.data.toList.getD i 0 = 82) : isLR s = true := by
  unfold isLR
  rw [List.all_eq_true]
  intro b hb
  obtain ⟨i, hi, rfl⟩ := List.getElem_of_mem hb
  have := h i (by rw [Lib.size_eq]; exact hi)
  rw [List.getD_eq_getElem?_getD, List.getElem?_eq_getElem hi] at this
  simpa using this
set_option maxHeartbeats 8000000 in
set_option maxRecDepth 1000000 in
/-- Where the kind is none of a line's. -/
theorem fault1_other (K B S st ra : Int) (ta : Option Addr) (tn tc : Nat) (tz : List Int) (tu : ByteArray) (w : World) (hT : Ints.Is w ta tn tz) (hu : tu.size ≤ 9223372036854775807) (hK : K ≠ 2) :
    Calls Tryd.prog 14 #[.agg (rulL K B S st ra ta tn tc tu).toArray] w fun e w' => e = .returned (.int .i64 (ofault K B S st ra tn tu)) ∧ Below w.heap.size w w' := by
  have hle := hT.le
  unfold maxLen at hle
  clear hT
  unfold rulL
  have hk2 : (K == 2) = false := by rw [beq_eq_false_iff_ne]; exact hK
  by_cases hlo : K < 1
  · have dlo : decide (K < 1) = true := decide_eq_true hlo
    go_enter Tryd.func14, Tryd.ntmps14
    go_upto_region 1 with fail
    obtain ⟨hR, hB⟩ := row_rule w K B S st ra ta tn tc tu
    have H : Hid (Row (w.alloc (.cells #[.int .i64 K, .int .i64 B, .int .i64 S, .int .i64 st, .int .i64 ra, .slice ta tn tc, .string tu] 24)) w.heap.size 24 (rulL K B S st ra ta tn tc tu)) := hR
    have HB : Hid (Below w.heap.size w (w.alloc (.cells #[.int .i64 K, .int .i64 B, .int .i64 S, .int .i64 st, .int .i64 ra, .slice ta tn tc, .string tu] 24))) := hB
    clear hR hB
    generalize w.alloc (.cells #[.int .i64 K, .int .i64 B, .int .i64 S, .int .i64 st, .int .i64 ra, .slice ta tn tc, .string tu] 24) = w1 at *
    obtain ⟨b1, hb1⟩ : ∃ b1, b1 = w.heap.size := ⟨_, rfl⟩
    rw [← hb1] at H ⊢
    have HB1 := Lib.hid hb1
    clear hb1
    have f0 := H.out.cell 0
    have f1 := H.out.cell 1
    have f2 := H.out.cell 2
    have f3 := H.out.cell 3
    have f4 := H.out.cell 4
    have f5 := H.out.cell 5
    have f6 := H.out.cell 6
    unfold rulL at f0 f1 f2 f3 f4 f5 f6
    dsimp only [List.getElem?_cons_succ, List.getElem?_cons_zero] at f0 f1 f2 f3 f4 f5 f6
    go_wp2_with fail
    go_ret
    exact ⟨congrArg (fun z : Int => Ending.returned (.int .i64 z)) (ofault_no (by omega) (by omega)).symm, HB.out⟩
  · have dlo : decide (K < 1) = false := decide_eq_false hlo
    by_cases hhi : 3 < K
    · have dhi : decide (3 < K) = true := decide_eq_true hhi
      go_enter Tryd.func14, Tryd.ntmps14
      go_upto_region 1 with fail
      obtain ⟨hR, hB⟩ := row_rule w K B S st ra ta tn tc tu
      have H : Hid (Row (w.alloc (.cells #[.int .i64 K, .int .i64 B, .int .i64 S, .int .i64 st, .int .i64 ra, .slice ta tn tc, .string tu] 24)) w.heap.size 24 (rulL K B S st ra ta tn tc tu)) := hR
      have HB : Hid (Below w.heap.size w (w.alloc (.cells #[.int .i64 K, .int .i64 B, .int .i64 S, .int .i64 st, .int .i64 ra, .slice ta tn tc, .string tu] 24))) := hB
      clear hR hB
      generalize w.alloc (.cells #[.int .i64 K, .int .i64 B, .int .i64 S, .int .i64 st, .int .i64 ra, .slice ta tn tc, .string tu] 24) = w1 at *
      obtain ⟨b1, hb1⟩ : ∃ b1, b1 = w.heap.size := ⟨_, rfl⟩
      rw [← hb1] at H ⊢
      have HB1 := Lib.hid hb1
      clear hb1
      have f0 := H.out.cell 0
      have f1 := H.out.cell 1
      have f2 := H.out.cell 2
      have f3 := H.out.cell 3
      have f4 := H.out.cell 4
      have f5 := H.out.cell 5
      have f6 := H.out.cell 6
      unfold rulL at f0 f1 f2 f3 f4 f5 f6
      dsimp only [List.getElem?_cons_succ, List.getElem?_cons_zero] at f0 f1 f2 f3 f4 f5 f6
      go_wp2_with fail
      go_ret
      exact ⟨congrArg (fun z : Int => Ending.returned (.int .i64 z)) (ofault_no (by omega) (by omega)).symm, HB.out⟩
    · have dhi : decide (3 < K) = false := decide_eq_false hhi
      by_cases hk1 : K = 1
      · subst hk1
        go_enter Tryd.func14, Tryd.ntmps14
        go_upto_region 1 with fail
        obtain ⟨hR, hB⟩ := row_rule w 1 B S st ra ta tn tc tu
        have H : Hid (Row (w.alloc (.cells #[.int .i64 1, .int .i64 B, .int .i64 S, .int .i64 st, .int .i64 ra, .slice ta tn tc, .string tu] 24)) w.heap.size 24 (rulL 1 B S st ra ta tn tc tu)) := hR
        have HB : Hid (Below w.heap.size w (w.alloc (.cells #[.int .i64 1, .int .i64 B, .int .i64 S, .int .i64 st, .int .i64 ra, .slice ta tn tc, .string tu] 24))) := hB
        clear hR hB
        generalize w.alloc (.cells #[.int .i64 1, .int .i64 B, .int .i64 S, .int .i64 st, .int .i64 ra, .slice ta tn tc, .string tu] 24) = w1 at *
        obtain ⟨b1, hb1⟩ : ∃ b1, b1 = w.heap.size := ⟨_, rfl⟩
        rw [← hb1] at H ⊢
        have HB1 := Lib.hid hb1
        clear hb1
        have f0 := H.out.cell 0
        have f1 := H.out.cell 1
        have f2 := H.out.cell 2
        have f3 := H.out.cell 3
        have f4 := H.out.cell 4
        have f5 := H.out.cell 5
        have f6 := H.out.cell 6
        unfold rulL at f0 f1 f2 f3 f4 f5 f6
        dsimp only [List.getElem?_cons_succ, List.getElem?_cons_zero] at f0 f1 f2 f3 f4 f5 f6
        go_upto_region 4 with fail
        by_cases h1 : B < 0
        · have dh1 : decide (B < 0) = true := decide_eq_true h1
          go_wp2_with fail
          go_ret
          exact ⟨congrArg (fun z : Int => Ending.returned (.int .i64 z)) (ofault_no1 (fun h => by have e1 := bitsB_iff.1 h.b; have e2 := bitsB_iff.1 h.s; have e3 := h.st; have e4 := h.ra; have e5 := h.tn; have e6 := h.tu; omega)).symm, HB.out⟩
        · have dh1 : decide (B < 0) = false := decide_eq_false h1
          by_cases h2 : 511 < B
          · have dh2 : decide (511 < B) = true := decide_eq_true h2
            go_wp2_with fail
            go_ret
            exact ⟨congrArg (fun z : Int => Ending.returned (.int .i64 z)) (ofault_no1 (fun h => by have e1 := bitsB_iff.1 h.b; have e2 := bitsB_iff.1 h.s; have e3 := h.st; have e4 := h.ra; have e5 := h.tn; have e6 := h.tu; omega)).symm, HB.out⟩
          · have dh2 : decide (511 < B) = false := decide_eq_false h2
            by_cases h3 : S < 0
            · have dh3 : decide (S < 0) = true := decide_eq_true h3
              go_wp2_with fail
              go_ret
              exact ⟨congrArg (fun z : Int => Ending.returned (.int .i64 z)) (ofault_no1 (fun h => by have e1 := bitsB_iff.1 h.b; have e2 := bitsB_iff.1 h.s; have e3 := h.st; have e4 := h.ra; have e5 := h.tn; have e6 := h.tu; omega)).symm, HB.out⟩
            · have dh3 : decide (S < 0) = false := decide_eq_false h3
              by_cases h4 : 511 < S
              · have dh4 : decide (511 < S) = true := decide_eq_true h4
                go_wp2_with fail
                go_ret
                exact ⟨congrArg (fun z : Int => Ending.returned (.int .i64 z)) (ofault_no1 (fun h => by have e1 := bitsB_iff.1 h.b; have e2 := bitsB_iff.1 h.s; have e3 := h.st; have e4 := h.ra; have e5 := h.tn; have e6 := h.tu; omega)).symm, HB.out⟩
              · have dh4 : decide (511 < S) = false := decide_eq_false h4
                go_upto_region 19 with fail
                by_cases h5 : st = 0
                · have dh5 : (st != 0) = false := by rw [h5]; rfl
                  by_cases h6 : ra = 0
                  · have dh6 : (ra != 0) = false := by rw [h6]; rfl
                    by_cases h7 : 0 < tn
                    · have dh7 : decide (0 < tn) = true := decide_eq_true h7
                      go_wp2_with fail
                      go_ret
                      exact ⟨congrArg (fun z : Int => Ending.returned (.int .i64 z)) (ofault_no1 (fun h => by have e1 := bitsB_iff.1 h.b; have e2 := bitsB_iff.1 h.s; have e3 := h.st; have e4 := h.ra; have e5 := h.tn; have e6 := h.tu; omega)).symm, HB.out⟩
                    · have dh7 : decide (0 < tn) = false := decide_eq_false h7
                      go_upto_region 29 with fail
                      by_cases hx_tu : tu.size = 0
                      · obtain rfl : tu = ⟨#[]⟩ := size_nil hx_tu
                        go_wp2_with fail
                        go_ret
                        exact ⟨congrArg (fun z : Int => Ending.returned (.int .i64 z)) (ofault_ok1 ⟨bitsB_iff.2 (by omega), bitsB_iff.2 (by omega), by first | assumption | rfl, by first | assumption | rfl, by omega, rfl⟩).symm, HB.out⟩
                      · have hy_tu := str_ne hx_tu
                        have hz_tu := str_ne2 hx_tu
                        go_wp2_with fail
                        go_ret
                        exact ⟨congrArg (fun z : Int => Ending.returned (.int .i64 z)) (ofault_no1 (fun h => by have e1 := bitsB_iff.1 h.b; have e2 := bitsB_iff.1 h.s; have e3 := h.st; have e4 := h.ra; have e5 := h.tn; have e6 := h.tu; omega)).symm, HB.out⟩
                  · have dh6 : (ra != 0) = true := by rw [bne_iff_ne]; exact h6
                    go_wp2_with fail
                    go_ret
                    exact ⟨congrArg (fun z : Int => Ending.returned (.int .i64 z)) (ofault_no1 (fun h => by have e1 := bitsB_iff.1 h.b; have e2 := bitsB_iff.1 h.s; have e3 := h.st; have e4 := h.ra; have e5 := h.tn; have e6 := h.tu; omega)).symm, HB.out⟩
                · have dh5 : (st != 0) = true := by rw [bne_iff_ne]; exact h5
                  go_wp2_with fail
                  go_ret
                  exact ⟨congrArg (fun z : Int => Ending.returned (.int .i64 z)) (ofault_no1 (fun h => by have e1 := bitsB_iff.1 h.b; have e2 := bitsB_iff.1 h.s; have e3 := h.st; have e4 := h.ra; have e5 := h.tn; have e6 := h.tu; omega)).symm, HB.out⟩
      · obtain rfl : K = 3 := by omega
        clear hlo dlo hhi dhi hk1 hk2 hK
        go_enter Tryd.func14, Tryd.ntmps14
        go_upto_region 1 with fail
        obtain ⟨hR, hB⟩ := row_rule w 3 B S st ra ta tn tc tu
        have H : Hid (Row (w.alloc (.cells #[.int .i64 3, .int .i64 B, .int .i64 S, .int .i64 st, .int .i64 ra, .slice ta tn tc, .string tu] 24)) w.heap.size 24 (rulL 3 B S st ra ta tn tc tu)) := hR
        have HB : Hid (Below w.heap.size w (w.alloc (.cells #[.int .i64 3, .int .i64 B, .int .i64 S, .int .i64 st, .int .i64 ra, .slice ta tn tc, .string tu] 24))) := hB
        clear hR hB
        generalize w.alloc (.cells #[.int .i64 3, .int .i64 B, .int .i64 S, .int .i64 st, .int .i64 ra, .slice ta tn tc, .string tu] 24) = w1 at *
        obtain ⟨b1, hb1⟩ : ∃ b1, b1 = w.heap.size := ⟨_, rfl⟩
        rw [← hb1] at H ⊢
        have HB1 := Lib.hid hb1
        clear hb1
        have f0 := H.out.cell 0
        have f1 := H.out.cell 1
        have f2 := H.out.cell 2
        have f3 := H.out.cell 3
        have f4 := H.out.cell 4
        have f5 := H.out.cell 5
        have f6 := H.out.cell 6
        unfold rulL at f0 f1 f2 f3 f4 f5 f6
        dsimp only [List.getElem?_cons_succ, List.getElem?_cons_zero] at f0 f1 f2 f3 f4 f5 f6
        go_upto_region 6 with fail
        by_cases h9 : B = 0
        · have dh9 : (B != 0) = false := by rw [h9]; rfl
          by_cases h10 : S = 0
          · have dh10 : (S != 0) = false := by rw [h10]; rfl
            go_upto_region 19 with fail
            by_cases h11 : st = 0
            · have dh11 : (st != 0) = false := by rw [h11]; rfl
              by_cases h12 : ra = 0
              · have dh12 : (ra != 0) = false := by rw [h12]; rfl
                by_cases h13 : 0 < tn
                · have dh13 : decide (0 < tn) = true := decide_eq_true h13
                  go_wp2_with fail
                  go_ret
                  exact ⟨congrArg (fun z : Int => Ending.returned (.int .i64 z)) (ofault_no3 (fun h => by have e1 := h.b; have e2 := h.s; have e3 := h.st; have e4 := h.ra; have e5 := h.tn; have e6 := turnsB_iff.1 h.tu; omega)).symm, HB.out⟩
                · have dh13 : decide (0 < tn) = false := decide_eq_false h13
                  go_upto_region 22 with fail
                  by_cases h14 : (tu.size : Int) < 1
                  · have dh14 : decide ((tu.size : Int) < 1) = true := decide_eq_true h14
                    go_wp2_with fail
                    go_ret
                    exact ⟨congrArg (fun z : Int => Ending.returned (.int .i64 z)) (ofault_no3 (fun h => by have e1 := h.b; have e2 := h.s; have e3 := h.st; have e4 := h.ra; have e5 := h.tn; have e6 := turnsB_iff.1 h.tu; omega)).symm, HB.out⟩
                  · have dh14 : decide ((tu.size : Int) < 1) = false := decide_eq_false h14
                    by_cases h15 : 26 < (tu.size : Int)
                    · have dh15 : decide (26 < (tu.size : Int)) = true := decide_eq_true h15
                      go_wp2_with fail
                      go_ret
                      exact ⟨congrArg (fun z : Int => Ending.returned (.int .i64 z)) (ofault_no3 (fun h => by have e1 := h.b; have e2 := h.s; have e3 := h.st; have e4 := h.ra; have e5 := h.tn; have e6 := turnsB_iff.1 h.tu; omega)).symm, HB.out⟩
                    · have dh15 : decide (26 < (tu.size : Int)) = false := decide_eq_false h15
                      have HK3 : Hid (B = 0 ∧ S = 0 ∧ st = 0 ∧ ra = 0 ∧ tn = 0 ∧ 1 ≤ tu.size ∧ tu.size ≤ 26) := Lib.hid ⟨h9, h10, h11, h12, by omega, by omega, by omega⟩
                      have hsz : tu.size ≤ 26 := by omega
                      clear h9 h10 h11 h12 h13 h14 h15
                      go_wp2_with fail
                      go_loop [5] (fun u => ∃ i : Nat, i ≤ tu.size ∧ u = .int .i64 i ∧ ∀ j, j < i → tu.data.toList.getD j 0 = 76 ∨ tu.data.toList.getD j 0 = 82) (fun u => tu.size - (intOf u).toNat)
                      case atStart => exact ⟨0, Nat.zero_le _, rfl, fun j hj => absurd hj (Nat.not_lt_zero _)⟩
                      case round =>
                        obtain ⟨i, hi, rfl, hok⟩ := hrel
                        have HOK := Lib.hid hok
                        clear hok
                        by_cases hlt : i < tu.size
                        · have HLT := Lib.hid hlt
                          by_cases h76 : (((tu[i]'hlt).toNat : Nat) : Int) = 76
                          · have HNX := Lib.hid (letters_next hlt HOK.out (.inl h76))
                            have hq76 : ((((tu[i]'hlt).toNat : Nat) : Int) != 76) = false := by rw [h76]; rfl
                            go_wp2_with fail
                            exact ⟨⟨i + 1, by omega, by go_num, HNX.out⟩, by simp [intOf]; omega⟩
                          · have hq76 : ((((tu[i]'hlt).toNat : Nat) : Int) != 76) = true := by rw [bne_iff_ne]; exact h76
                            by_cases h82 : (((tu[i]'hlt).toNat : Nat) : Int) = 82
                            · have HNX := Lib.hid (letters_next hlt HOK.out (.inr h82))
                              have hq82 : ((((tu[i]'hlt).toNat : Nat) : Int) != 82) = false := by rw [h82]; rfl
                              go_wp2_with fail
                              exact ⟨⟨i + 1, by omega, by go_num, HNX.out⟩, by simp [intOf]; omega⟩
                            · have HNO := Lib.hid (letters_no hlt h76 h82)
                              have hq82 : ((((tu[i]'hlt).toNat : Nat) : Int) != 82) = true := by rw [bne_iff_ne]; exact h82
                              go_wp2_with fail
                              go_ret
                              exact ⟨congrArg (fun z : Int => Ending.returned (.int .i64 z)) (ofault_no3 (fun h => HNO.out (turnsB_iff.1 h.tu).2)).symm, HB.out⟩
                        · have HAL := Lib.hid (isLR_all (s := tu) (fun j hj => HOK.out j (by omega)))
                          go_wp2_with fail
                          go_ret
                          exact ⟨congrArg (fun z : Int => Ending.returned (.int .i64 z)) (ofault_ok3 ⟨HK3.out.1, HK3.out.2.1, HK3.out.2.2.1, HK3.out.2.2.2.1, HK3.out.2.2.2.2.1, turnsB_iff.2 ⟨HK3.out.2.2.2.2.2, HAL.out⟩⟩).symm, HB.out⟩
              · have dh12 : (ra != 0) = true := by rw [bne_iff_ne]; exact h12
                go_wp2_with fail
                go_ret
                exact ⟨congrArg (fun z : Int => Ending.returned (.int .i64 z)) (ofault_no3 (fun h => by have e1 := h.b; have e2 := h.s; have e3 := h.st; have e4 := h.ra; have e5 := h.tn; have e6 := turnsB_iff.1 h.tu; omega)).symm, HB.out⟩
            · have dh11 : (st != 0) = true := by rw [bne_iff_ne]; exact h11
              go_wp2_with fail
              go_ret
              exact ⟨congrArg (fun z : Int => Ending.returned (.int .i64 z)) (ofault_no3 (fun h => by have e1 := h.b; have e2 := h.s; have e3 := h.st; have e4 := h.ra; have e5 := h.tn; have e6 := turnsB_iff.1 h.tu; omega)).symm, HB.out⟩
          · have dh10 : (S != 0) = true := by rw [bne_iff_ne]; exact h10
            go_wp2_with fail
            go_ret
            exact ⟨congrArg (fun z : Int => Ending.returned (.int .i64 z)) (ofault_no3 (fun h => by have e1 := h.b; have e2 := h.s; have e3 := h.st; have e4 := h.ra; have e5 := h.tn; have e6 := turnsB_iff.1 h.tu; omega)).symm, HB.out⟩
        · have dh9 : (B != 0) = true := by rw [bne_iff_ne]; exact h9
          go_wp2_with fail
          go_ret
          exact ⟨congrArg (fun z : Int => Ending.returned (.int .i64 z)) (ofault_no3 (fun h => by have e1 := h.b; have e2 := h.s; have e3 := h.st; have e4 := h.ra; have e5 := h.tn; have e6 := turnsB_iff.1 h.tu; omega)).symm, HB.out⟩
set_option maxHeartbeats 8000000 in
set_option maxRecDepth 1000000 in
/-- Where the kind is a line's. -/
theorem fault1_line (B S st ra : Int) (ta : Option Addr) (tn tc : Nat) (tz : List Int) (tu : ByteArray) (w : World) (hT : Ints.Is w ta tn tz) (hu : tu.size ≤ 9223372036854775807) :
    Calls Tryd.prog 14 #[.agg (rulL 2 B S st ra ta tn tc tu).toArray] w fun e w' => e = .returned (.int .i64 (lfault 2 B S st ra tz tu)) ∧ Below w.heap.size w w' := by
  have hle := hT.le
  unfold maxLen at hle
  have HT := Lib.hid hT
  clear hT
  unfold rulL
  go_enter Tryd.func14, Tryd.ntmps14
  go_upto_region 1 with fail
  obtain ⟨hR, hB⟩ := row_rule w 2 B S st ra ta tn tc tu
  have H : Hid (Row (w.alloc (.cells #[.int .i64 2, .int .i64 B, .int .i64 S, .int .i64 st, .int .i64 ra, .slice ta tn tc, .string tu] 24)) w.heap.size 24 (rulL 2 B S st ra ta tn tc tu)) := hR
  have HB : Hid (Below w.heap.size w (w.alloc (.cells #[.int .i64 2, .int .i64 B, .int .i64 S, .int .i64 st, .int .i64 ra, .slice ta tn tc, .string tu] 24))) := hB
  clear hR hB
  generalize w.alloc (.cells #[.int .i64 2, .int .i64 B, .int .i64 S, .int .i64 st, .int .i64 ra, .slice ta tn tc, .string tu] 24) = w1 at *
  obtain ⟨b1, hb1⟩ : ∃ b1, b1 = w.heap.size := ⟨_, rfl⟩
  rw [← hb1] at H ⊢
  have HB1 := Lib.hid hb1
  clear hb1
  have f0 := H.out.cell 0
  have f1 := H.out.cell 1
  have f2 := H.out.cell 2
  have f3 := H.out.cell 3
  have f4 := H.out.cell 4
  have f5 := H.out.cell 5
  have f6 := H.out.cell 6
  unfold rulL at f0 f1 f2 f3 f4 f5 f6
  dsimp only [List.getElem?_cons_succ, List.getElem?_cons_zero] at f0 f1 f2 f3 f4 f5 f6
  go_upto_region 6 with fail
  by_cases h16 : B = 0
  · have dh16 : (B != 0) = false := by rw [h16]; rfl
    by_cases h17 : S = 0
    · have dh17 : (S != 0) = false := by rw [h17]; rfl
      go_upto_region 9 with fail
      by_cases h18 : st < 2
      · have dh18 : decide (st < 2) = true := decide_eq_true h18
        go_wp2_with fail
        go_ret
        exact ⟨congrArg (fun z : Int => Ending.returned (.int .i64 z)) (lfault_no fun h => by have := h.st2; omega).symm, HB.out⟩
      · have dh18 : decide (st < 2) = false := decide_eq_false h18
        by_cases h19 : 4 < st
        · have dh19 : decide (4 < st) = true := decide_eq_true h19
          go_wp2_with fail
          go_ret
          exact ⟨congrArg (fun z : Int => Ending.returned (.int .i64 z)) (lfault_no fun h => by have := h.st4; omega).symm, HB.out⟩
        · have dh19 : decide (4 < st) = false := decide_eq_false h19
          by_cases h20 : ra < 0
          · have dh20 : decide (ra < 0) = true := decide_eq_true h20
            go_wp2_with fail
            go_ret
            exact ⟨congrArg (fun z : Int => Ending.returned (.int .i64 z)) (lfault_no fun h => by have := h.ra0; omega).symm, HB.out⟩
          · have dh20 : decide (ra < 0) = false := decide_eq_false h20
            by_cases h21 : 10 < ra
            · have dh21 : decide (10 < ra) = true := decide_eq_true h21
              go_wp2_with fail
              go_ret
              exact ⟨congrArg (fun z : Int => Ending.returned (.int .i64 z)) (lfault_no fun h => by have := h.ra5; omega).symm, HB.out⟩
            · have dh21 : decide (10 < ra) = false := decide_eq_false h21
              obtain ⟨st, rfl⟩ := Int.eq_ofNat_of_zero_le (show 0 ≤ st by omega)
              obtain ⟨ra, rfl⟩ := Int.eq_ofNat_of_zero_le (show 0 ≤ ra by omega)
              have hB0 : B = 0 ∧ S = 0 := by constructor <;> assumption
              have HB0 := Lib.hid hB0
              obtain ⟨rfl, rfl⟩ := hB0
              obtain ⟨nn, hnn⟩ : ∃ nn, nn = 2 * ra + 1 := ⟨_, rfl⟩
              have hn2 : 2 * (ra : Int) + 1 = (nn : Int) := by omega
              have HPW := Lib.hid (fun w2 => power1_any (a := st) (n := nn) (by omega) (by omega) (by omega) w2)
              have HNN := Lib.hid hnn
              clear hnn
              by_cases hpl : st ^ nn ≤ 4096
              · rw [p5_end hpl] at HPW
                obtain ⟨pp, hpp⟩ : ∃ pp, pp = st ^ nn := ⟨_, rfl⟩
                rw [← hpp] at HPW hpl
                have HPP := Lib.hid hpp
                clear hpp
                have hp4 : ¬ (4096 : Int) < (pp : Int) := by omega
                have dp4 : decide ((4096 : Int) < (pp : Int)) = false := decide_eq_false hp4
                go_upto_region 12 with (refine (HPW.out _).mono ?_; rintro e2 w2 ⟨rfl, rfl⟩)
                by_cases htp : tn = pp
                · subst htp
                  have HLEN : Hid (tz.length = st ^ (2 * (ra : Int).toNat + 1)) := by
                    show tz.length = _
                    rw [HT.out.len, HPP.out, HNN.out]; rfl
                  have hne : ((tn : Int) != (tn : Int)) = false := by rw [bne_self_eq_false]
                  go_wp2_with fail
                  clear f0 f1 f2 f3 f4 f5 f6
                  go_loopw [4] (fun u wr => ∃ i : Nat, i ≤ tn ∧ u = .int .i64 i ∧ (∀ k, k < i → offS st (tz.getD k 0) = false) ∧ Row wr b1 24 (rulL 2 0 0 st ra ta tn tc tu) ∧ Below w.heap.size w wr) (fun u _ => tn - (intOf u).toNat)
                  case atStart => exact ⟨0, Nat.zero_le _, rfl, fun k hk => absurd hk (Nat.not_lt_zero _), H.out, HB.out⟩
                  case round =>
                    clear H HB
                    obtain ⟨i, hi, rfl, hok, hR, hbel⟩ := hrel
                    have HOK := Lib.hid hok
                    have H := Lib.hid hR
                    have HB := Lib.hid hbel
                    clear hok hR hbel
                    by_cases hlt : i < tn
                    · obtain ⟨bt, ot, rfl, _, hct⟩ := (HT.out.keep HB.out).cells i hlt
                      dsimp only at hct
                      have HM := Lib.hid (int_mem (zs := tz) (k := i) (by rw [HT.out.len]; exact hlt))
                      have f3 := H.out.cell 3
                      have f5 := H.out.cell 5
                      unfold rulL at f3 f5
                      dsimp only [List.getElem?_cons_succ, List.getElem?_cons_zero] at f3 f5
                      have HF : Hid (offS st (tz.getD i 0) = true → lfault 2 0 0 st ra tz tu = 1) := fun ho => lfault_no fun h => by
                        have h2 := h.tz _ HM.out
                        unfold offS at ho
                        simp only [decide_eq_true_eq] at ho
                        omega
                      have HO : Hid (offS st (tz.getD i 0) = decide (tz.getD i 0 < 0 ∨ (st : Int) ≤ tz.getD i 0)) := rfl
                      generalize hq : offS st (tz.getD i 0) = q at *
                      have HQ := Lib.hid hq
                      clear hq
                      generalize hzz : tz.getD i 0 = z at *
                      have HZZ := Lib.hid hzz
                      clear hzz
                      by_cases hz0 : z < 0
                      · have dz0 : decide (z < 0) = true := decide_eq_true hz0
                        obtain rfl : q = true := by rw [HO.out]; exact decide_eq_true (.inl hz0)
                        go_wp2_with fail
                        go_big_quiet (fail)
                        have HB := Lib.hid (below_drewN HB.out nq)
                        go_wp2_with fail
                        go_ret
                        exact ⟨congrArg (fun z : Int => Ending.returned (.int .i64 z)) (HF.out (by first | rfl | trivial)).symm, HB.out⟩
                      · have dz0 : decide (z < 0) = false := decide_eq_false hz0
                        by_cases hzs : (st : Int) ≤ z
                        · have dzs : decide ((st : Int) ≤ z) = true := decide_eq_true hzs
                          obtain rfl : q = true := by rw [HO.out]; exact decide_eq_true (.inr hzs)
                          go_wp2_with fail
                          go_big_quiet (fail)
                          have HB := Lib.hid (below_drewN HB.out nq)
                          go_wp2_with fail
                          go_ret
                          exact ⟨congrArg (fun z : Int => Ending.returned (.int .i64 z)) (HF.out (by first | rfl | trivial)).symm, HB.out⟩
                        · have dzs : decide ((st : Int) ≤ z) = false := decide_eq_false hzs
                          obtain rfl : q = false := by rw [HO.out]; exact decide_eq_false (by omega)
                          have HOK2 : Hid (∀ k, k < i + 1 → offS st (tz.getD k 0) = false) := fun k hk => by
                            rcases Nat.lt_succ_iff_lt_or_eq.1 hk with h | rfl
                            · exact HOK.out k h
                            · rw [HZZ.out]; exact HQ.out
                          go_wp2_with fail
                          go_big_quiet (fail)
                          have HB := Lib.hid (below_drewN HB.out nq)
                          have H := Lib.hid (H.out.drewN nq)
                          clear f3 f5
                          generalize wr.drewN nq = w3 at *
                          go_wp2_with fail
                          go_round
                          case rel => exact ⟨i + 1, by omega, by go_num, HOK2.out, H.out, HB.out⟩
                          case measure => simp [intOf]; omega
                    · have HALL : Hid (∀ z ∈ tz, 0 ≤ z ∧ z < (st : Int)) := any_off.1 (any_no (zs := tz) (p := offS st) fun k hk => HOK.out k (by rw [HT.out.len] at hk; omega))
                      have f0 := H.out.cell 0
                      have f6 := H.out.cell 6
                      unfold rulL at f0 f6
                      dsimp only [List.getElem?_cons_succ, List.getElem?_cons_zero] at f0 f6
                      go_upto_region 29 with fail
                      by_cases hx_tu : tu.size = 0
                      · obtain rfl : tu = ⟨#[]⟩ := size_nil hx_tu
                        go_wp2_with fail
                        go_ret
                        exact ⟨congrArg (fun z : Int => Ending.returned (.int .i64 z)) (lfault_ok ⟨rfl, rfl, rfl, by omega, by omega, by omega, HLEN.out, by rw [HT.out.len]; omega, HALL.out, rfl⟩).symm, HB.out⟩
                      · have hy_tu := str_ne hx_tu
                        have hz_tu := str_ne2 hx_tu
                        go_wp2_with fail
                        go_ret
                        exact ⟨congrArg (fun z : Int => Ending.returned (.int .i64 z)) (lfault_no fun h => absurd h.tu (by assumption)).symm, HB.out⟩
                · have hne : ((tn : Int) != (pp : Int)) = true := by rw [bne_iff_ne]; omega
                  go_wp2_with fail
                  go_ret
                  exact ⟨congrArg (fun z : Int => Ending.returned (.int .i64 z)) (lfault_no fun h => htp (by have h2 := h.len; rw [HT.out.len] at h2; rw [h2, HPP.out, HNN.out]; rfl)).symm, HB.out⟩
              · have h5 : p5 st nn = 5000 := by unfold p5; rw [if_pos (by omega)]
                rw [h5] at HPW
                go_upto_region 12 with (refine (HPW.out _).mono ?_; rintro e2 w2 ⟨rfl, rfl⟩)
                go_wp2_with fail
                go_ret
                exact ⟨congrArg (fun z : Int => Ending.returned (.int .i64 z)) (lfault_no fun h => hpl (by have h2 := h.len; have h3 := h.le; rw [HNN.out]; rw [h2] at h3; exact h3)).symm, HB.out⟩
    · have dh17 : (S != 0) = true := by rw [bne_iff_ne]; exact h17
      go_wp2_with fail
      go_ret
      exact ⟨congrArg (fun z : Int => Ending.returned (.int .i64 z)) (lfault_no fun h => absurd h.s (by assumption)).symm, HB.out⟩
  · have dh16 : (B != 0) = true := by rw [bne_iff_ne]; exact h16
    go_wp2_with fail
    go_ret
    exact ⟨congrArg (fun z : Int => Ending.returned (.int .i64 z)) (lfault_no fun h => absurd h.b (by assumption)).symm, HB.out⟩
end Ln
end Go.Proofs.YthipeeagpllfeaaDoor
