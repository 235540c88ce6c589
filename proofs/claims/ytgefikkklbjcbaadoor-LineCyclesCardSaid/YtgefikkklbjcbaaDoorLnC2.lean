/- WALK: edenref2.Cycle: when a word comes again, by a slow one and a fast one. -/
import Derived.Test.YtgefikkklbjcbaaDoorLnKy
namespace Go.Proofs.YtgefikkklbjcbaaDoor
set_option linter.unusedSimpArgs false
set_option linter.unusedVariables false
open Go.RowKit
namespace Ln
open Tld Mem

set_option maxHeartbeats 8000000 in
set_option maxRecDepth 1000000 in
theorem cycle2_any (K B S : Int) (st ra : Nat) (ta : Option Addr) (tn tc : Nat) (tz : List Int) (tu : ByteArray) (wa : Option Addr) (wn wc : Nat) (wz : List Int) (w : World) (h : RulIs w st ra ta tn tz) (hW : Ints.Is w wa wn wz) (hz : ∀ z ∈ wz, 0 ≤ z ∧ z < (st : Int)) (hwn : wn ≤ 1000) :
    Calls Tryd.prog 15 #[.agg #[.int .i64 K, .int .i64 B, .int .i64 S, .int .i64 st, .int .i64 ra, .slice ta tn tc, .string tu], .slice wa wn wc, .int .i64 100000] w fun e w' => (∃ (a p : Nat) (ok : Bool), e = .returned (.tuple #[.int .i64 a, .int .i64 p, .bool ok]) ∧ Cy.ByTwo (runL (wf tz) st ra wz) 100000 a p ok) ∧ Below w.heap.size w w' := by
  obtain ⟨hR, hB⟩ := row_rule w K B S st ra ta tn tc tu
  have HB := Lib.hid hB
  have HR := Lib.hid hR
  have hwl := hW.len
  have htlt : ∀ k, wf tz k < st := h.lt
  obtain ⟨x, hx⟩ : ∃ x : Nat → List Int, x = runL (wf tz) st ra wz := ⟨_, rfl⟩
  have HST : Hid (∀ (w2 : World) (h3 : Below w.heap.size w w2) (ao : Option Addr) (co n : Nat) (hI : Ints.Is w2 ao wn (x n)), Calls Tryd.prog 22 #[.agg #[.int .i64 K, .int .i64 B, .int .i64 S, .int .i64 st, .int .i64 ra, .slice ta tn tc, .string tu], .slice ao wn co] w2 fun e w' => (∃ a2 c2, e = .returned (.slice a2 wn c2) ∧ Ints.Is w' a2 wn (x (n + 1))) ∧ Below w2.heap.size w2 w') := fun w2 h3 ao co n hI => by
    rw [hx] at hI ⊢
    refine (step2_any K B S st ra ta tn tc tz tu ao wn co _ w2 (h.keep h3) hI (runL_mem htlt hz n) (by omega)).mono ?_
    rintro e w' ⟨⟨v', rfl, hown⟩, hb⟩
    obtain ⟨a2, c2, rfl, hco⟩ := own_slice2 hown
    exact ⟨⟨a2, c2, rfl, (own_is hown ((runL_len (n + 1)).trans hwl) (by unfold maxLen; omega)).1⟩, hb⟩
  have HDET : Hid (Cy.Det x) := fun i j e => by
    rw [hx] at e ⊢
    show stepL _ _ _ _ = stepL _ _ _ _
    rw [e]
  have HI0 : Hid (Ints.Is w wa wn (x 0)) := by rw [hx]; exact hW
  rw [← hx]
  clear hR hB h hW hz htlt hwl hx
  go_enter Tryd.func15, Tryd.ntmps15
  go_upto_region 1 with fail
  obtain ⟨w1, hw1⟩ : ∃ w1, w1 = w.alloc (.cells #[.int .i64 K, .int .i64 B, .int .i64 S, .int .i64 st, .int .i64 ra, .slice ta tn tc, .string tu] 24) := ⟨_, rfl⟩
  rw [← hw1]
  have HR : Hid (Row w1 w.heap.size 24 (rulL K B S st ra ta tn tc tu)) := by rw [hw1]; exact HR.out
  have HB : Hid (Below w.heap.size w w1) := by rw [hw1]; exact HB.out
  have HI := Lib.hid (HI0.out.keep HB.out)
  clear hw1
  obtain ⟨b3, hb3⟩ : ∃ b3, b3 = w.heap.size := ⟨_, rfl⟩
  rw [← hb3] at HR ⊢
  clear hb3
  have l3 := row_range HR.out
  go_wp2_with (refine wpList_load_mid rfl 24 _ rfl b3 0 rfl _ _ l3 Tryd.underlying24 rfl infoRule ?_)
  clear l3
  refine (HST.out _ HB.out wa wc (0) HI.out).mono ?_
  rintro e0 w11 ⟨⟨a1, c1, rfl, hI⟩, hb9⟩
  have HR := Lib.hid (HR.out.keep hb9 HR.out.lt)
  have HB := Lib.hid (HB.out.trans (hb9.mono HB.out.size))
  clear hb9
  have HI1 := Lib.hid hI
  clear hI
  have l3 := row_range HR.out
  go_wp2_with (refine wpList_load_mid rfl 24 _ rfl b3 0 rfl _ _ l3 Tryd.underlying24 rfl infoRule ?_)
  clear l3
  refine (HST.out _ HB.out a1 c1 (0 + 1) HI1.out).mono ?_
  rintro e0 w12 ⟨⟨a2, c2, rfl, hI⟩, hb9⟩
  have HR := Lib.hid (HR.out.keep hb9 HR.out.lt)
  have HI1 := Lib.hid (HI1.out.keep hb9)
  have HB := Lib.hid (HB.out.trans (hb9.mono HB.out.size))
  clear hb9
  have HI2 := Lib.hid hI
  clear hI
  go_wp2_with fail
  refine (Ints.ints_any a1 a2 wn wn c1 c2 _ _ _ HI1.out HI2.out).mono ?_
  rintro e0 w13 ⟨rfl, hb9⟩
  have HR := Lib.hid (HR.out.keep hb9 HR.out.lt)
  have HI1 := Lib.hid (HI1.out.keep hb9)
  have HI2 := Lib.hid (HI2.out.keep hb9)
  have HB := Lib.hid (HB.out.trans (hb9.mono HB.out.size))
  clear hb9
  obtain ⟨q', hq'⟩ : ∃ q' : Bool, q' = decide (x (0 + 1) = x (0 + 1 + 1)) := ⟨_, rfl⟩
  rw [← hq']
  have HQ' : Hid (q' = true ↔ x (0 + 1) = x (0 + 1 + 1)) := by
    show q' = true ↔ _
    rw [hq']; exact decide_eq_true_iff
  clear hq'
  go_wp2_with fail
  go_loopw [9, 10, 11, 12] (fun s f v q wr => ∃ (n : Nat) (a1 a2 : Option Addr) (c1 c2 : Nat) (b : Bool), 1 ≤ n ∧ n ≤ 100001 ∧ v = .int .i64 n ∧ s = .slice a1 wn c1 ∧ f = .slice a2 wn c2 ∧ q = .bool b ∧ Ints.Is wr a1 wn (x n) ∧ Ints.Is wr a2 wn (x (2 * n)) ∧ (b = true ↔ x n = x (2 * n)) ∧ (∀ m, 1 ≤ m → m < n → x m ≠ x (2 * m)) ∧ Row wr b3 24 (rulL K B S st ra ta tn tc tu) ∧ Below w.heap.size w wr) (fun _ _ v _ _ => 100002 - (intOf v).toNat)
  case atStart => exact ⟨1, a1, a2, c1, c2, q', Nat.le_refl _, by omega, rfl, rfl, rfl, rfl, HI1.out, HI2.out, HQ'.out, fun m h1 h2 => by omega, HR.out, HB.out⟩
  case round =>
    clear HI HI1 HI2 HQ' HR HB
    obtain ⟨n, a1, a2, c1, c2, b, hn1, hn2, rfl, rfl, rfl, rfl, hI1, hI2, hb, hno, hR, hbel⟩ := hrel
    have HI1 := Lib.hid hI1
    have HI2 := Lib.hid hI2
    have HQ := Lib.hid hb
    have HNO := Lib.hid hno
    have HR := Lib.hid hR
    have HB := Lib.hid hbel
    clear hI1 hI2 hb hno hR hbel
    cases b
    · have HNE : Hid (x n ≠ x (2 * n)) := fun e => by have := HQ.out.2 e; cases this
      by_cases hm : 100000 < n
      · have dm : decide ((100000 : Int) < (n : Int)) = true := decide_eq_true (by omega)
        go_wp2_with fail
        go_ret3
        exact ⟨⟨0, 0, false, rfl, .inr ⟨fun m h1 h2 => HNO.out m h1 (by omega), rfl, rfl, rfl⟩⟩, HB.out⟩
      · have dm : decide ((100000 : Int) < (n : Int)) = false := decide_eq_false (by omega)
        have l3 := row_range HR.out
        go_wp2_with (refine wpList_load_mid rfl 24 _ rfl b3 0 rfl _ _ l3 Tryd.underlying24 rfl infoRule ?_)
        clear l3
        refine (HST.out _ HB.out a1 c1 (n) HI1.out).mono ?_
        rintro e0 w14 ⟨⟨d1, e1, rfl, hI⟩, hb9⟩
        have HR := Lib.hid (HR.out.keep hb9 HR.out.lt)
        have HI1 := Lib.hid (HI1.out.keep hb9)
        have HI2 := Lib.hid (HI2.out.keep hb9)
        have HB := Lib.hid (HB.out.trans (hb9.mono HB.out.size))
        clear hb9
        have HJ1 := Lib.hid hI
        clear hI
        have l3 := row_range HR.out
        go_wp2_with (refine wpList_load_mid rfl 24 _ rfl b3 0 rfl _ _ l3 Tryd.underlying24 rfl infoRule ?_)
        clear l3
        refine (HST.out _ HB.out a2 c2 (2 * n) HI2.out).mono ?_
        rintro e0 w15 ⟨⟨d2, e2, rfl, hI⟩, hb9⟩
        have HR := Lib.hid (HR.out.keep hb9 HR.out.lt)
        have HI1 := Lib.hid (HI1.out.keep hb9)
        have HI2 := Lib.hid (HI2.out.keep hb9)
        have HJ1 := Lib.hid (HJ1.out.keep hb9)
        have HB := Lib.hid (HB.out.trans (hb9.mono HB.out.size))
        clear hb9
        have HJ2 := Lib.hid hI
        clear hI
        have l3 := row_range HR.out
        go_wp2_with (refine wpList_load_mid rfl 24 _ rfl b3 0 rfl _ _ l3 Tryd.underlying24 rfl infoRule ?_)
        clear l3
        refine (HST.out _ HB.out d2 e2 (2 * n + 1) HJ2.out).mono ?_
        rintro e0 w16 ⟨⟨d3, e3, rfl, hI⟩, hb9⟩
        have HR := Lib.hid (HR.out.keep hb9 HR.out.lt)
        have HI1 := Lib.hid (HI1.out.keep hb9)
        have HI2 := Lib.hid (HI2.out.keep hb9)
        have HJ1 := Lib.hid (HJ1.out.keep hb9)
        have HJ2 := Lib.hid (HJ2.out.keep hb9)
        have HB := Lib.hid (HB.out.trans (hb9.mono HB.out.size))
        clear hb9
        have HJ3 := Lib.hid hI
        clear hI
        go_wp2_with fail
        refine (Ints.ints_any d1 d3 wn wn e1 e3 _ _ _ HJ1.out HJ3.out).mono ?_
        rintro e0 w17 ⟨rfl, hb9⟩
        have HR := Lib.hid (HR.out.keep hb9 HR.out.lt)
        have HI1 := Lib.hid (HI1.out.keep hb9)
        have HI2 := Lib.hid (HI2.out.keep hb9)
        have HJ1 := Lib.hid (HJ1.out.keep hb9)
        have HJ2 := Lib.hid (HJ2.out.keep hb9)
        have HJ3 := Lib.hid (HJ3.out.keep hb9)
        have HB := Lib.hid (HB.out.trans (hb9.mono HB.out.size))
        clear hb9
        obtain ⟨q', hq'⟩ : ∃ q' : Bool, q' = decide (x (n + 1) = x (2 * n + 1 + 1)) := ⟨_, rfl⟩
        rw [← hq']
        have HQ' : Hid (q' = true ↔ x (n + 1) = x (2 * n + 1 + 1)) := by
          show q' = true ↔ _
          rw [hq']; exact decide_eq_true_iff
        clear hq'
        have HN2 : Hid (∀ m, 1 ≤ m → m < n + 1 → x m ≠ x (2 * m)) := fun m h1 h2 => by
          rcases Nat.lt_or_eq_of_le (Nat.le_of_lt_succ h2) with h3 | rfl
          · exact HNO.out m h1 h3
          · exact HNE.out
        have h2n : 2 * (n + 1) = 2 * n + 1 + 1 := by omega
        have H2N := Lib.hid h2n
        clear h2n
        go_wp2_with fail
        go_roundw
        case rel => exact ⟨n + 1, d1, d3, e1, e3, q', by omega, by omega, by go_num, rfl, rfl, rfl, HJ1.out, by rw [H2N.out]; exact HJ3.out, by rw [H2N.out]; exact HQ'.out, HN2.out, HR.out, HB.out⟩
        case measure => simp [intOf]; omega
    · have hee : x n = x (2 * n) := HQ.out.1 rfl
      have HE := Lib.hid hee
      obtain ⟨mu, la, hg, hmula⟩ := Cy.good_of (x := x) (2 * n) n (by omega) hee
      have HG := Lib.hid hg
      have hla1 := hg.la1
      clear hee hg HQ HNO HI1
      have HI := Lib.hid (HI0.out.keep HB.out)
      go_upto_region 15 with fail
      go_wp2_with fail
      refine (Ints.ints_any wa a2 wn wn wc c2 _ _ _ HI.out HI2.out).mono ?_
      rintro e0 w18 ⟨rfl, hb9⟩
      have HR := Lib.hid (HR.out.keep hb9 HR.out.lt)
      have HI2 := Lib.hid (HI2.out.keep hb9)
      have HI := Lib.hid (HI.out.keep hb9)
      have HB := Lib.hid (HB.out.trans (hb9.mono HB.out.size))
      clear hb9
      obtain ⟨q', hq'⟩ : ∃ q' : Bool, q' = decide (x 0 = x (2 * n)) := ⟨_, rfl⟩
      rw [← hq']
      have HQ' : Hid (q' = true ↔ x 0 = x (2 * n)) := by
        show q' = true ↔ _
        rw [hq']; exact decide_eq_true_iff
      clear hq'
      go_wp2_with fail
      go_loopw [9, 10, 12, 13] (fun s f q v wr => ∃ (a : Nat) (a1 a2 : Option Addr) (c1 c2 : Nat) (b : Bool), a ≤ mu ∧ v = .int .i64 a ∧ s = .slice a1 wn c1 ∧ f = .slice a2 wn c2 ∧ q = .bool b ∧ Ints.Is wr a1 wn (x a) ∧ Ints.Is wr a2 wn (x (2 * n + a)) ∧ (b = true ↔ x a = x (2 * n + a)) ∧ Row wr b3 24 (rulL K B S st ra ta tn tc tu) ∧ Below w.heap.size w wr) (fun _ _ _ v _ => mu - (intOf v).toNat)
      case atStart => exact ⟨0, wa, a2, wc, c2, q', Nat.zero_le _, rfl, rfl, rfl, rfl, HI.out, HI2.out, HQ'.out, HR.out, HB.out⟩
      case round =>
        clear HI HI2 HQ' HR HB
        obtain ⟨a, a1, a2, c1, c2, b, ha, rfl, rfl, rfl, rfl, hI1, hI2, hb, hR, hbel⟩ := hrel
        have HI1 := Lib.hid hI1
        have HI2 := Lib.hid hI2
        have HR := Lib.hid hR
        have HB := Lib.hid hbel
        have hah := Cy.ahead HDET.out HG.out hn1 HE.out a
        rw [← hb] at hah
        clear hI1 hI2 hb hR hbel
        cases b
        · have hlt : a < mu := by
            rcases Nat.lt_or_ge a mu with h | h
            · exact h
            · have := hah.2 h; cases this
          clear hah
          have l3 := row_range HR.out
          go_wp2_with (refine wpList_load_mid rfl 24 _ rfl b3 0 rfl _ _ l3 Tryd.underlying24 rfl infoRule ?_)
          clear l3
          refine (HST.out _ HB.out a1 c1 (a) HI1.out).mono ?_
          rintro e0 w19 ⟨⟨d1, e1, rfl, hI⟩, hb9⟩
          have HR := Lib.hid (HR.out.keep hb9 HR.out.lt)
          have HI1 := Lib.hid (HI1.out.keep hb9)
          have HI2 := Lib.hid (HI2.out.keep hb9)
          have HB := Lib.hid (HB.out.trans (hb9.mono HB.out.size))
          clear hb9
          have HJ1 := Lib.hid hI
          clear hI
          have l3 := row_range HR.out
          go_wp2_with (refine wpList_load_mid rfl 24 _ rfl b3 0 rfl _ _ l3 Tryd.underlying24 rfl infoRule ?_)
          clear l3
          refine (HST.out _ HB.out a2 c2 (2 * n + a) HI2.out).mono ?_
          rintro e0 w20 ⟨⟨d2, e2, rfl, hI⟩, hb9⟩
          have HR := Lib.hid (HR.out.keep hb9 HR.out.lt)
          have HI1 := Lib.hid (HI1.out.keep hb9)
          have HI2 := Lib.hid (HI2.out.keep hb9)
          have HJ1 := Lib.hid (HJ1.out.keep hb9)
          have HB := Lib.hid (HB.out.trans (hb9.mono HB.out.size))
          clear hb9
          have HJ2 := Lib.hid hI
          clear hI
          go_wp2_with fail
          refine (Ints.ints_any d1 d2 wn wn e1 e2 _ _ _ HJ1.out HJ2.out).mono ?_
          rintro e0 w21 ⟨rfl, hb9⟩
          have HR := Lib.hid (HR.out.keep hb9 HR.out.lt)
          have HI1 := Lib.hid (HI1.out.keep hb9)
          have HI2 := Lib.hid (HI2.out.keep hb9)
          have HJ1 := Lib.hid (HJ1.out.keep hb9)
          have HJ2 := Lib.hid (HJ2.out.keep hb9)
          have HB := Lib.hid (HB.out.trans (hb9.mono HB.out.size))
          clear hb9
          obtain ⟨q', hq'⟩ : ∃ q' : Bool, q' = decide (x (a + 1) = x (2 * n + a + 1)) := ⟨_, rfl⟩
          rw [← hq']
          have HQ' : Hid (q' = true ↔ x (a + 1) = x (2 * n + a + 1)) := by
            show q' = true ↔ _
            rw [hq']; exact decide_eq_true_iff
          clear hq'
          go_wp2_with fail
          go_roundw
          case rel => exact ⟨a + 1, d1, d2, e1, e2, q', by omega, by go_num, rfl, rfl, rfl, HJ1.out, HJ2.out, HQ'.out, HR.out, HB.out⟩
          case measure => simp [intOf]; omega
        · have hmu : a = mu := by have := hah.1 rfl; omega
          subst hmu
          clear hah HI2
          go_upto_region 22 with fail
          have l3 := row_range HR.out
          go_wp2_with (refine wpList_load_mid rfl 24 _ rfl b3 0 rfl _ _ l3 Tryd.underlying24 rfl infoRule ?_)
          clear l3
          refine (HST.out _ HB.out a1 c1 (a) HI1.out).mono ?_
          rintro e0 w22 ⟨⟨d1, e1, rfl, hI⟩, hb9⟩
          have HR := Lib.hid (HR.out.keep hb9 HR.out.lt)
          have HI1 := Lib.hid (HI1.out.keep hb9)
          have HB := Lib.hid (HB.out.trans (hb9.mono HB.out.size))
          clear hb9
          have HJ1 := Lib.hid hI
          clear hI
          go_wp2_with fail
          refine (Ints.ints_any a1 d1 wn wn c1 e1 _ _ _ HI1.out HJ1.out).mono ?_
          rintro e0 w23 ⟨rfl, hb9⟩
          have HR := Lib.hid (HR.out.keep hb9 HR.out.lt)
          have HI1 := Lib.hid (HI1.out.keep hb9)
          have HJ1 := Lib.hid (HJ1.out.keep hb9)
          have HB := Lib.hid (HB.out.trans (hb9.mono HB.out.size))
          clear hb9
          obtain ⟨q', hq'⟩ : ∃ q' : Bool, q' = decide (x a = x (a + 1)) := ⟨_, rfl⟩
          rw [← hq']
          have HQ' : Hid (q' = true ↔ x a = x (a + 1)) := by
            show q' = true ↔ _
            rw [hq']; exact decide_eq_true_iff
          clear hq'
          go_wp2_with fail
          go_loopw [10, 12, 14] (fun f q v wr => ∃ (p : Nat) (a2 : Option Addr) (c2 : Nat) (b : Bool), 1 ≤ p ∧ p ≤ la ∧ v = .int .i64 p ∧ f = .slice a2 wn c2 ∧ q = .bool b ∧ Ints.Is wr a1 wn (x a) ∧ Ints.Is wr a2 wn (x (a + p)) ∧ (b = true ↔ x a = x (a + p)) ∧ Row wr b3 24 (rulL K B S st ra ta tn tc tu) ∧ Below w.heap.size w wr) (fun _ _ v _ => la - (intOf v).toNat)
          case atStart => exact ⟨1, d1, e1, q', Nat.le_refl _, hla1, rfl, rfl, rfl, HI1.out, HJ1.out, HQ'.out, HR.out, HB.out⟩
          case round =>
            clear HI1 HJ1 HQ' HR HB
            obtain ⟨p, a2, c2, b, hp1, hp2, rfl, rfl, rfl, hI1, hI2, hb, hR, hbel⟩ := hrel
            have HI1 := Lib.hid hI1
            have HI2 := Lib.hid hI2
            have HR := Lib.hid hR
            have HB := Lib.hid hbel
            have hpe := Cy.period HDET.out HG.out hp1
            rw [← hb] at hpe
            clear hI1 hI2 hb hR hbel
            cases b
            · have hlt : p < la := by
                rcases Nat.lt_or_ge p la with h | h
                · exact h
                · have h3 : p = la := by omega
                  have := hpe.2 ⟨1, by omega⟩
                  cases this
              clear hpe
              have l3 := row_range HR.out
              go_wp2_with (refine wpList_load_mid rfl 24 _ rfl b3 0 rfl _ _ l3 Tryd.underlying24 rfl infoRule ?_)
              clear l3
              refine (HST.out _ HB.out a2 c2 (a + p) HI2.out).mono ?_
              rintro e0 w24 ⟨⟨d2, e2, rfl, hI⟩, hb9⟩
              have HR := Lib.hid (HR.out.keep hb9 HR.out.lt)
              have HI1 := Lib.hid (HI1.out.keep hb9)
              have HI2 := Lib.hid (HI2.out.keep hb9)
              have HB := Lib.hid (HB.out.trans (hb9.mono HB.out.size))
              clear hb9
              have HJ2 := Lib.hid hI
              clear hI
              go_wp2_with fail
              refine (Ints.ints_any a1 d2 wn wn c1 e2 _ _ _ HI1.out HJ2.out).mono ?_
              rintro e0 w25 ⟨rfl, hb9⟩
              have HR := Lib.hid (HR.out.keep hb9 HR.out.lt)
              have HI1 := Lib.hid (HI1.out.keep hb9)
              have HI2 := Lib.hid (HI2.out.keep hb9)
              have HJ2 := Lib.hid (HJ2.out.keep hb9)
              have HB := Lib.hid (HB.out.trans (hb9.mono HB.out.size))
              clear hb9
              obtain ⟨q', hq'⟩ : ∃ q' : Bool, q' = decide (x a = x (a + p + 1)) := ⟨_, rfl⟩
              rw [← hq']
              have HQ' : Hid (q' = true ↔ x a = x (a + p + 1)) := by
                show q' = true ↔ _
                rw [hq']; exact decide_eq_true_iff
              clear hq'
              go_wp2_with fail
              go_roundw
              case rel => exact ⟨p + 1, d2, e2, q', by omega, by omega, by go_num, rfl, rfl, HI1.out, HJ2.out, HQ'.out, HR.out, HB.out⟩
              case measure => simp [intOf]; omega
            · have hpl : p = la := by
                obtain ⟨k, hk⟩ := hpe.1 rfl
                have hk1 : 1 ≤ k := by
                  rcases Nat.eq_zero_or_pos k with h | h
                  · rw [h] at hk; omega
                  · exact h
                have := Nat.mul_le_mul_left la hk1
                omega
              subst hpl
              clear hpe
              by_cases hle : a + p ≤ 100000
              · have dle : decide ((a : Int) + (p : Int) ≤ 100000) = true := decide_eq_true (by omega)
                go_wp2_with fail
                go_ret3
                exact ⟨⟨a, p, true, rfl, .inl ⟨HG.out, (decide_eq_true hle).symm⟩⟩, HB.out⟩
              · have dle : decide ((a : Int) + (p : Int) ≤ 100000) = false := decide_eq_false (by omega)
                go_wp2_with fail
                go_ret3
                exact ⟨⟨a, p, false, rfl, .inl ⟨HG.out, (decide_eq_false hle).symm⟩⟩, HB.out⟩
end Ln
end Go.Proofs.YtgefikkklbjcbaaDoor
