/- THE LAW LineShifts: its walk, out of its callees' contracts. -/
import Derived.Test.YtgefikkklbjcbaaDoorLnLw
namespace Go.Proofs.YtgefikkklbjcbaaDoor
set_option linter.unusedSimpArgs false
set_option linter.unusedVariables false
open Go.RowKit
namespace Ln
open Tld Mem

theorem fact_any (w2 : World) (p q : Nat) (h1 : Ints.Is w2 (some ⟨p, 0, none⟩) 2 [1, 0]) (h2 : Ints.Is w2 (some ⟨q, 0, none⟩) 2 [0, 1]) :
    Calls Tryd.prog 7 #[.agg #[.int .i64 2, .int .i64 0, .int .i64 0, .int .i64 2, .int .i64 0, .slice (some ⟨p, 0, none⟩) 2 2, .string ⟨#[]⟩], .slice (some ⟨q, 0, none⟩) 2 2] w2 fun e w' => (∃ bo oo co, e = .returned (.tuple #[.slice (some ⟨bo, oo, none⟩) 2 co, .nilIface]) ∧ w'.cell? ⟨bo, oo, none⟩ = some (.int .i64 1) ∧ w'.cell? ⟨bo, oo + 1, none⟩ = some (.int .i64 0)) ∧ Below w2.heap.size w2 w' := by
  have h := stepL_ok 2 0 0 2 0 (some ⟨p, 0, none⟩) 2 2 [1, 0] ⟨#[]⟩ (some ⟨q, 0, none⟩) 2 2 [0, 1] w2 h1 tu0 h2 (by decide) fact_fault
  refine Calls.mono h ?_
  rintro e w' ⟨⟨ao, co, rfl, hco, hI, hn⟩, hb⟩
  refine ⟨?_, hb⟩
  rw [fact_step] at hI
  obtain ⟨b, o, rfl, hb, hc⟩ := hI.cells 0 (by decide)
  obtain ⟨b', o', e', hb', hc'⟩ := hI.cells 1 (by decide)
  cases e'
  exact ⟨b, o, co, rfl, hc, hc'⟩
theorem ints_same (a b : Option Addr) (n m c d : Nat) (xs ys : List Int) (w : World) (hx : Ints.Is w a n xs) (hy : Ints.Is w b m ys) (e : xs = ys) :
    Calls Tryd.prog 9 #[.slice a n c, .slice b m d] w fun e w' => e = .returned (.bool true) ∧ Below w.heap.size w w' := by
  have h := Ints.ints_any a b n m c d xs ys w hx hy
  rw [decide_eq_true e] at h
  exact h
theorem one_cells {w : World} {p : Nat} {K B S st ra : Int} {ta : Option Addr} {tn tc : Nat} {tu : ByteArray} (hp : Row w p 24 (rulL K B S st ra ta tn tc tu)) :
    w.cell? ⟨p, 0, none⟩ = some (.int .i64 K) ∧ w.cell? ⟨p, 1, none⟩ = some (.int .i64 B) ∧ w.cell? ⟨p, 2, none⟩ = some (.int .i64 S) ∧ w.cell? ⟨p, 3, none⟩ = some (.int .i64 st) ∧ w.cell? ⟨p, 4, none⟩ = some (.int .i64 ra) ∧ w.cell? ⟨p, 5, none⟩ = some (.slice ta tn tc) ∧ w.cell? ⟨p, 6, none⟩ = some (.string tu) :=
  ⟨hp.cell 0, hp.cell 1, hp.cell 2, hp.cell 3, hp.cell 4, hp.cell 5, hp.cell 6⟩
set_option maxHeartbeats 8000000 in
set_option maxRecDepth 1000000 in
theorem lineShifts_bad (K B S st ra : Int) (ta : Option Addr) (tn tc : Nat) (tz : List Int) (tu : ByteArray) (K' B' S' st' rb : Int) (tb : Option Addr) (tm td : Nat) (tzb : List Int) (tu' : ByteArray) (wa : Option Addr) (wn wc : Nat) (wz : List Int) (y q : Int) (w : World) (f : Int) (hT : Ints.Is w ta tn tz) (hu : tu.size ≤ 9223372036854775807) (hT' : Ints.Is w tb tm tzb) (hu' : tu'.size ≤ 9223372036854775807) (hW : Ints.Is w wa wn wz) (hwc : wn ≤ wc) (hf : wfault K B S st ra tz tu wz = f) (h0 : f ≠ 0) :
    Calls Tryd.prog 3 #[.agg #[.int .i64 K, .int .i64 B, .int .i64 S, .int .i64 st, .int .i64 ra, .slice ta tn tc, .string tu], .agg #[.int .i64 K', .int .i64 B', .int .i64 S', .int .i64 st', .int .i64 rb, .slice tb tm td, .string tu'], .slice wa wn wc, .int .i64 y, .int .i64 q] w fun e w' => e = .returned (.bool true) ∧ Below w.heap.size w w' := by
  have HT := Lib.hid hT
  have HW := Lib.hid hW
  have HF := Lib.hid hf
  clear hT hT' hW hf
  go_enter Tryd.func3, Tryd.ntmps3
  go_upto_region 1 with fail
  obtain ⟨hR5, hR6, hB⟩ := two_new w 24 24 (rulL K B S st ra ta tn tc tu) (rulL K' B' S' st' rb tb tm td tu')
  have HR5 : Hid (Row ((w.alloc (.cells #[.int .i64 K, .int .i64 B, .int .i64 S, .int .i64 st, .int .i64 ra, .slice ta tn tc, .string tu] 24)).alloc (.cells #[.int .i64 K', .int .i64 B', .int .i64 S', .int .i64 st', .int .i64 rb, .slice tb tm td, .string tu'] 24)) w.heap.size 24 (rulL K B S st ra ta tn tc tu)) := hR5
  have HR6 : Hid (Row ((w.alloc (.cells #[.int .i64 K, .int .i64 B, .int .i64 S, .int .i64 st, .int .i64 ra, .slice ta tn tc, .string tu] 24)).alloc (.cells #[.int .i64 K', .int .i64 B', .int .i64 S', .int .i64 st', .int .i64 rb, .slice tb tm td, .string tu'] 24)) (w.heap.size + 1) 24 (rulL K' B' S' st' rb tb tm td tu')) := hR6
  have HB : Hid (Below w.heap.size w ((w.alloc (.cells #[.int .i64 K, .int .i64 B, .int .i64 S, .int .i64 st, .int .i64 ra, .slice ta tn tc, .string tu] 24)).alloc (.cells #[.int .i64 K', .int .i64 B', .int .i64 S', .int .i64 st', .int .i64 rb, .slice tb tm td, .string tu'] 24))) := hB
  clear hR5 hR6 hB
  generalize (w.alloc (.cells #[.int .i64 K, .int .i64 B, .int .i64 S, .int .i64 st, .int .i64 ra, .slice ta tn tc, .string tu] 24)).alloc (.cells #[.int .i64 K', .int .i64 B', .int .i64 S', .int .i64 st', .int .i64 rb, .slice tb tm td, .string tu'] 24) = w1 at *
  obtain ⟨b5, hb5⟩ : ∃ b5, b5 = w.heap.size := ⟨_, rfl⟩
  obtain ⟨b6, hb6⟩ : ∃ b6, b6 = w.heap.size + 1 := ⟨_, rfl⟩
  rw [← hb6] at HR6 ⊢
  rw [← hb5] at HR5 ⊢
  clear hb5 hb6
  go_wp2_with fail
  obtain ⟨hRa, hRb, hb2⟩ := two_new w1 3 3 [.int .i64 1, .int .i64 0] [.int .i64 0, .int .i64 1]
  have HRa : Hid (Row ((w1.alloc (.cells #[.int .i64 1, .int .i64 0] 3)).alloc (.cells #[.int .i64 0, .int .i64 1] 3)) w1.heap.size 3 [.int .i64 1, .int .i64 0]) := hRa
  have HRb : Hid (Row ((w1.alloc (.cells #[.int .i64 1, .int .i64 0] 3)).alloc (.cells #[.int .i64 0, .int .i64 1] 3)) (w1.heap.size + 1) 3 [.int .i64 0, .int .i64 1]) := hRb
  have hb2 : Below w1.heap.size w1 ((w1.alloc (.cells #[.int .i64 1, .int .i64 0] 3)).alloc (.cells #[.int .i64 0, .int .i64 1] 3)) := hb2
  clear hRa hRb
  have HR5 := Lib.hid (HR5.out.keep hb2 HR5.out.lt)
  have HR6 := Lib.hid (HR6.out.keep hb2 HR6.out.lt)
  have HB := Lib.hid (HB.out.trans (hb2.mono HB.out.size))
  clear hb2
  generalize (w1.alloc (.cells #[.int .i64 1, .int .i64 0] 3)).alloc (.cells #[.int .i64 0, .int .i64 1] 3) = w2 at *
  refine (fact_any w2 _ _ (row_isN (zs := [1, 0]) HRa.out rfl (by decide)) (row_isN (zs := [0, 1]) HRb.out rfl (by decide))).mono ?_
  rintro e0 w3 ⟨⟨bo, oo, co, rfl, hc0, hc1⟩, hb9⟩
  clear HRa HRb
  have HR5 := Lib.hid (HR5.out.keep hb9 HR5.out.lt)
  have HR6 := Lib.hid (HR6.out.keep hb9 HR6.out.lt)
  have HB := Lib.hid (HB.out.trans (hb9.mono HB.out.size))
  clear hb9
  have l5 := row_range HR5.out
  go_wp2_with (refine wpList_load_mid rfl 24 _ rfl b5 0 rfl _ _ l5 Tryd.underlying24 rfl infoRule ?_)
  clear l5
  clear hc0 hc1
  refine (stepL_fault K B S st ra ta tn tc tz tu wa wn wc wz f w3 (HT.out.keep HB.out) hu (HW.out.keep HB.out) HF.out h0).mono ?_
  rintro e0 w4 ⟨rfl, hb9⟩
  have HB := Lib.hid (HB.out.trans (hb9.mono HB.out.size))
  clear hb9
  go_wp2_with fail
  go_ret
  exact ⟨rfl, HB.out⟩
set_option maxHeartbeats 8000000 in
set_option maxRecDepth 1000000 in
theorem lineShifts_ok1 (K B S : Int) (st ra : Nat) (ta : Option Addr) (tn tc : Nat) (tz : List Int) (tu : ByteArray) (K' B' S' : Int) (rb : Nat) (tb : Option Addr) (tm td : Nat) (tzb : List Int) (tu' : ByteArray) (wa : Option Addr) (wn wc : Nat) (wz : List Int) (y q : Int) (w : World) (hT : Ints.Is w ta tn tz) (hu : tu.size ≤ 9223372036854775807) (hT' : Ints.Is w tb tm tzb) (hu' : tu'.size ≤ 9223372036854775807) (hW : Ints.Is w wa wn wz) (hwc : wn ≤ wc) (hf : wfault K B S st ra tz tu wz = 0) (hbf : lfault K' B' S' st rb tzb tu' = 0) (N : Nat) (hN : N = st ^ (2 * (ra + rb) + 1)) (hN4 : N ≤ 4096) :
    Calls Tryd.prog 3 #[.agg #[.int .i64 K, .int .i64 B, .int .i64 S, .int .i64 st, .int .i64 ra, .slice ta tn tc, .string tu], .agg #[.int .i64 K', .int .i64 B', .int .i64 S', .int .i64 st, .int .i64 rb, .slice tb tm td, .string tu'], .slice wa wn wc, .int .i64 y, .int .i64 q] w fun e w' => e = .returned (.bool true) ∧ Below w.heap.size w w' := by
  have HT := Lib.hid hT
  have HT' := Lib.hid hT'
  have HW := Lib.hid hW
  have HF := Lib.hid hf
  obtain ⟨ho, hn, hz⟩ := wfault_zero hf
  obtain ⟨s, r, hs, hr', h2, h4, hr5, htn, htl, htz⟩ := ho.nat hT.len
  obtain rfl : st = s := by omega
  obtain rfl : ra = r := by omega
  have hwl := hW.len
  rw [hwl] at hn
  have HZ := Lib.hid hz
  have HZ0 := Lib.hid (fun z hzz => (hz z hzz).1)
  have HTL := Lib.hid (fun k => wf_lt (st := st) (by omega) htz k)
  have HA := Lib.hid (lfault_ok ho)
  obtain ⟨X, hX⟩ : ∃ X, X = stepL (wf tz) st ra wz := ⟨_, rfl⟩
  have HXL : Hid (X.length = wn) := by show X.length = wn; rw [hX, stepL_len, hwl]
  have HXM : Hid (∀ z ∈ X, 0 ≤ z ∧ z < (st : Int)) := by rw [hX]; exact stepL_mem HTL.out
  have HMV : Hid (0 < wn → ∀ b, stepL (wf tz) st ra (movL b wz) = movL b X) := fun h b => by rw [hX]; exact step_moved (by omega)
  have HXE := Lib.hid hX
  have HDC := Lib.hid (wide_cases (K := K) (B := B) (S := S) (tz := tz) (tu := tu) (wz := wz) (q := q) h2 HA.out hz)
  have HN := Lib.hid hN
  have HBF := Lib.hid hbf
  have HCF := Lib.hid (made_ok (F := comp (wf tz) (wf tzb) st ra rb) h2 h4 hN hN4 (fun k => comp_lt fun k => wf_lt (by omega) (lfault_01 hbf).tz k))
  have HCO : Hid (stepL (wf (lst N (comp (wf tz) (wf tzb) st ra rb))) st (ra + rb) wz = stepL (wf tzb) st rb X) := by
    show stepL _ _ _ _ = _
    rw [hX]; exact step_comp hN (by omega) hz
  clear hN hbf
  clear hT hT' hW hf ho hz htz htn hs hr' hwl hX
  go_enter Tryd.func3, Tryd.ntmps3
  go_upto_region 1 with fail
  obtain ⟨hR5, hR6, hB⟩ := two_new w 24 24 (rulL K B S (st : Nat) (ra : Nat) ta tn tc tu) (rulL K' B' S' (st : Nat) (rb : Nat) tb tm td tu')
  have HR5 : Hid (Row ((w.alloc (.cells #[.int .i64 K, .int .i64 B, .int .i64 S, .int .i64 (st : Nat), .int .i64 (ra : Nat), .slice ta tn tc, .string tu] 24)).alloc (.cells #[.int .i64 K', .int .i64 B', .int .i64 S', .int .i64 (st : Nat), .int .i64 (rb : Nat), .slice tb tm td, .string tu'] 24)) w.heap.size 24 (rulL K B S (st : Nat) (ra : Nat) ta tn tc tu)) := hR5
  have HR6 : Hid (Row ((w.alloc (.cells #[.int .i64 K, .int .i64 B, .int .i64 S, .int .i64 (st : Nat), .int .i64 (ra : Nat), .slice ta tn tc, .string tu] 24)).alloc (.cells #[.int .i64 K', .int .i64 B', .int .i64 S', .int .i64 (st : Nat), .int .i64 (rb : Nat), .slice tb tm td, .string tu'] 24)) (w.heap.size + 1) 24 (rulL K' B' S' (st : Nat) (rb : Nat) tb tm td tu')) := hR6
  have HB : Hid (Below w.heap.size w ((w.alloc (.cells #[.int .i64 K, .int .i64 B, .int .i64 S, .int .i64 (st : Nat), .int .i64 (ra : Nat), .slice ta tn tc, .string tu] 24)).alloc (.cells #[.int .i64 K', .int .i64 B', .int .i64 S', .int .i64 (st : Nat), .int .i64 (rb : Nat), .slice tb tm td, .string tu'] 24))) := hB
  clear hR5 hR6 hB
  generalize (w.alloc (.cells #[.int .i64 K, .int .i64 B, .int .i64 S, .int .i64 (st : Nat), .int .i64 (ra : Nat), .slice ta tn tc, .string tu] 24)).alloc (.cells #[.int .i64 K', .int .i64 B', .int .i64 S', .int .i64 (st : Nat), .int .i64 (rb : Nat), .slice tb tm td, .string tu'] 24) = w1 at *
  obtain ⟨b5, hb5⟩ : ∃ b5, b5 = w.heap.size := ⟨_, rfl⟩
  obtain ⟨b6, hb6⟩ : ∃ b6, b6 = w.heap.size + 1 := ⟨_, rfl⟩
  rw [← hb6] at HR6 ⊢
  rw [← hb5] at HR5 ⊢
  clear hb5 hb6
  go_wp2_with fail
  obtain ⟨hRa, hRb, hb2⟩ := two_new w1 3 3 [.int .i64 1, .int .i64 0] [.int .i64 0, .int .i64 1]
  have HRa : Hid (Row ((w1.alloc (.cells #[.int .i64 1, .int .i64 0] 3)).alloc (.cells #[.int .i64 0, .int .i64 1] 3)) w1.heap.size 3 [.int .i64 1, .int .i64 0]) := hRa
  have HRb : Hid (Row ((w1.alloc (.cells #[.int .i64 1, .int .i64 0] 3)).alloc (.cells #[.int .i64 0, .int .i64 1] 3)) (w1.heap.size + 1) 3 [.int .i64 0, .int .i64 1]) := hRb
  have hb2 : Below w1.heap.size w1 ((w1.alloc (.cells #[.int .i64 1, .int .i64 0] 3)).alloc (.cells #[.int .i64 0, .int .i64 1] 3)) := hb2
  clear hRa hRb
  have HR5 := Lib.hid (HR5.out.keep hb2 HR5.out.lt)
  have HR6 := Lib.hid (HR6.out.keep hb2 HR6.out.lt)
  have HB := Lib.hid (HB.out.trans (hb2.mono HB.out.size))
  clear hb2
  generalize (w1.alloc (.cells #[.int .i64 1, .int .i64 0] 3)).alloc (.cells #[.int .i64 0, .int .i64 1] 3) = w2 at *
  refine (fact_any w2 _ _ (row_isN (zs := [1, 0]) HRa.out rfl (by decide)) (row_isN (zs := [0, 1]) HRb.out rfl (by decide))).mono ?_
  rintro e0 w3 ⟨⟨bo, oo, co, rfl, hc0, hc1⟩, hb9⟩
  clear HRa HRb
  have HR5 := Lib.hid (HR5.out.keep hb9 HR5.out.lt)
  have HR6 := Lib.hid (HR6.out.keep hb9 HR6.out.lt)
  have HB := Lib.hid (HB.out.trans (hb9.mono HB.out.size))
  clear hb9
  have l5 := row_range HR5.out
  go_wp2_with (refine wpList_load_mid rfl 24 _ rfl b5 0 rfl _ _ l5 Tryd.underlying24 rfl infoRule ?_)
  clear l5
  clear hc0 hc1
  refine (stepL_ok K B S st ra ta tn tc tz tu wa wn wc wz w3 (HT.out.keep HB.out) hu (HW.out.keep HB.out) hwc HF.out).mono ?_
  rintro e0 w4 ⟨⟨ax, cx, rfl, hcx, hIX, _⟩, hb9⟩
  rw [← HXE.out] at hIX
  have HX := Lib.hid hIX
  clear hIX HF
  have HR5 := Lib.hid (HR5.out.keep hb9 HR5.out.lt)
  have HR6 := Lib.hid (HR6.out.keep hb9 HR6.out.lt)
  have HB := Lib.hid (HB.out.trans (hb9.mono HB.out.size))
  clear hb9
  rcases Nat.eq_zero_or_pos wn with rfl | hn0
  · skip
    go_upto_region 15 with fail
    have l5 := row_range HR5.out
    have l6 := row_range HR6.out
    go_wp2_with (first | (refine wpList_load_mid rfl 24 _ rfl b5 0 rfl _ _ l5 Tryd.underlying24 rfl infoRule ?_) | (refine wpList_load_mid rfl 24 _ rfl b6 0 rfl _ _ l6 Tryd.underlying24 rfl infoRule ?_))
    clear l5 l6
    refine (compose_ok K B S st ra ta tn tc tz tu K' B' S' rb tb tm td tzb tu' w4 (HT.out.keep HB.out) hu (HT'.out.keep HB.out) hu' HA.out HBF.out N HN.out hN4).mono ?_
    rintro e0 w12 ⟨⟨g, rfl, _, hIc⟩, hb9⟩
    have HIC := Lib.hid hIc
    clear hIc
    have HR5 := Lib.hid (HR5.out.keep hb9 HR5.out.lt)
    have HR6 := Lib.hid (HR6.out.keep hb9 HR6.out.lt)
    have HX := Lib.hid (HX.out.keep hb9)
    have HB := Lib.hid (HB.out.trans (hb9.mono HB.out.size))
    clear hb9
    have HBS := Lib.hid HB.out
    have hr0 : Row (w12.alloc (.cells #[.int .i64 0, .int .i64 0, .int .i64 0, .int .i64 0, .int .i64 0, .slice none 0 0, .string ⟨#[]⟩] 24)) w12.heap.size 24 noRul := row_alloc w12 24 noRul
    have hb8 : Below w12.heap.size w12 (w12.alloc (.cells #[.int .i64 0, .int .i64 0, .int .i64 0, .int .i64 0, .int .i64 0, .slice none 0 0, .string ⟨#[]⟩] 24)) := (Below.refl _ _).alloc (Nat.le_refl _) _
    go_upto_region 16 with (refine Ops.wpList_store_arr rfl 24 _ _ rfl (w12.heap.size) rfl 24 _ (rulL 2 0 0 st (ra + rb : Nat) (some ⟨g, 0, none⟩) N N ⟨#[]⟩) rfl hr0 rfl infoRule (rul_one _ _ _ _ _ _ _ _ _) ?_; intro w9 hrow9 hon9)
    have hXF : Far w12.heap.size ax 0 := far_of HX.out (Nat.le_refl _)
    have hb9 := hb8.trans (hon9.below (Nat.le_refl _))
    have HR19 := Lib.hid hrow9
    clear hb8 hon9 hrow9 hr0
    have HR5 := Lib.hid (HR5.out.keep hb9 HR5.out.lt)
    have HR6 := Lib.hid (HR6.out.keep hb9 HR6.out.lt)
    have HX := Lib.hid (HX.out.keep hb9)
    have HIC := Lib.hid (HIC.out.keep hb9)
    have HB := Lib.hid (HB.out.trans (hb9.mono HB.out.size))
    clear hb9
    obtain ⟨b19, hb19⟩ : ∃ b, b = w12.heap.size := ⟨_, rfl⟩
    have HB19 : Hid (w.heap.size ≤ b19) := by rw [hb19]; exact HBS.out.size
    rw [← hb19] at HR19 hXF ⊢
    have HXF := Lib.hid hXF
    clear hb19 HBS hXF
    have l6 := row_range HR6.out
    go_wp2_with (refine wpList_load_mid rfl 24 _ rfl b6 0 rfl _ _ l6 Tryd.underlying24 rfl infoRule ?_)
    clear l6
    refine (stepL_ok K' B' S' st rb tb tm td tzb tu' ax 0 cx X w9 (HT'.out.keep HB.out) hu' HX.out hcx (wfault_ok HBF.out (by rw [HXL.out]; omega) HXM.out)).mono ?_
    rintro e0 w13 ⟨⟨ay, cy, rfl, hcy, hIY, _⟩, hb9⟩
    have HIY := Lib.hid hIY
    clear hIY
    have HR5 := Lib.hid (HR5.out.keep hb9 HR5.out.lt)
    have HR6 := Lib.hid (HR6.out.keep hb9 HR6.out.lt)
    have HX := Lib.hid (HX.out.keep hb9)
    have HIC := Lib.hid (HIC.out.keep hb9)
    have HR19 := Lib.hid (HR19.out.keep hb9 HR19.out.lt)
    have HB := Lib.hid (HB.out.trans (hb9.mono HB.out.size))
    clear hb9
    have l19 := row_range HR19.out
    go_wp2_with (refine wpList_load_mid rfl 24 _ rfl b19 0 rfl _ _ l19 Tryd.underlying24 rfl infoRule ?_)
    clear l19
    refine (stepL_ok 2 0 0 st (ra + rb) (some ⟨g, 0, none⟩) N N _ ⟨#[]⟩ wa 0 wc wz w13 HIC.out tu0 (HW.out.keep HB.out) hwc (wfault_ok HCF.out (by rw [HW.out.len]; omega) HZ.out)).mono ?_
    rintro e0 w14 ⟨⟨az, cz, rfl, hcz, hIZ, _⟩, hb9⟩
    have HIZ := Lib.hid hIZ
    clear hIZ HIC
    have HR5 := Lib.hid (HR5.out.keep hb9 HR5.out.lt)
    have HR6 := Lib.hid (HR6.out.keep hb9 HR6.out.lt)
    have HX := Lib.hid (HX.out.keep hb9)
    have HR19 := Lib.hid (HR19.out.keep hb9 HR19.out.lt)
    have HIY := Lib.hid (HIY.out.keep hb9)
    have HB := Lib.hid (HB.out.trans (hb9.mono HB.out.size))
    clear hb9
    go_wp2_with fail
    refine (ints_same ay az 0 0 cy cz _ _ w14 HIY.out HIZ.out HCO.out.symm).mono ?_
    rintro e0 w30 ⟨rfl, hb9⟩
    clear HIY HIZ
    have HR5 := Lib.hid (HR5.out.keep hb9 HR5.out.lt)
    have HR6 := Lib.hid (HR6.out.keep hb9 HR6.out.lt)
    have HX := Lib.hid (HX.out.keep hb9)
    have HR19 := Lib.hid (HR19.out.keep hb9 HR19.out.lt)
    have HB := Lib.hid (HB.out.trans (hb9.mono HB.out.size))
    clear hb9
    clear HR6
    rcases HDC.out with ⟨fd, hfd, hfd0⟩ | ⟨qn, hqn, hqr, Nq, hNq, hNq4, hdf, hWI⟩
    · have HFD := Lib.hid hfd
      clear hfd
      go_upto_region 22 with fail
      have l5 := row_range HR5.out
      go_wp2_with (refine wpList_load_mid rfl 24 _ rfl b5 0 rfl _ _ l5 Tryd.underlying24 rfl infoRule ?_)
      clear l5
      refine (widen_bad K B S st ra ta tn tc tz tu q fd w30 (HT.out.keep HB.out) hu HFD.out hfd0).mono ?_
      rintro e0 w31 ⟨rfl, hb9⟩
      have HR5 := Lib.hid (HR5.out.keep hb9 HR5.out.lt)
      have HX := Lib.hid (HX.out.keep hb9)
      have HR19 := Lib.hid (HR19.out.keep hb9 HR19.out.lt)
      have HB := Lib.hid (HB.out.trans (hb9.mono HB.out.size))
      clear hb9
      go_upto_region 23 with (refine Ops.wpList_store_arr rfl 24 _ _ rfl (b19) rfl 24 _ (noRul) rfl HR19.out rfl infoRule noRul_one ?_; intro w9 hrow9 hon9)
      have HB := Lib.hid (HB.out.trans (hon9.below HB19.out))
      go_wp2_with fail
      go_ret
      exact ⟨rfl, HB.out⟩
    · subst hqn
      have HWI := Lib.hid hWI
      have HNQ := Lib.hid hNq
      have HDF := Lib.hid hdf
      clear hWI hNq hdf
      go_upto_region 22 with fail
      have l5 := row_range HR5.out
      go_wp2_with (refine wpList_load_mid rfl 24 _ rfl b5 0 rfl _ _ l5 Tryd.underlying24 rfl infoRule ?_)
      clear l5
      refine (widen_ok K B S st ra ta tn tc tz tu qn w30 (HT.out.keep HB.out) hu HA.out hqr Nq HNQ.out hNq4).mono ?_
      rintro e0 w31 ⟨⟨gq, rfl, hgq, hIq⟩, hb9⟩
      have hgne : gq ≠ b19 := by have := HR19.out.lt; omega
      have HIQ := Lib.hid hIq
      clear hIq hgq
      have HR5 := Lib.hid (HR5.out.keep hb9 HR5.out.lt)
      have HX := Lib.hid (HX.out.keep hb9)
      have HR19 := Lib.hid (HR19.out.keep hb9 HR19.out.lt)
      have HB := Lib.hid (HB.out.trans (hb9.mono HB.out.size))
      clear hb9
      go_upto_region 23 with (refine Ops.wpList_store_arr rfl 24 _ _ rfl (b19) rfl 24 _ (rulL 2 0 0 st qn (some ⟨gq, 0, none⟩) Nq Nq ⟨#[]⟩) rfl HR19.out rfl infoRule (rul_one _ _ _ _ _ _ _ _ _) ?_; intro w9 hrow9 hon9)
      have HB := Lib.hid (HB.out.trans (hon9.below HB19.out))
      have HIQ := Lib.hid (is_other HIQ.out hon9 hgne)
      have HX := Lib.hid (is_only HX.out HXF.out hon9)
      have HR19 := Lib.hid hrow9
      clear hrow9 hon9
      have l19 := row_range HR19.out
      go_wp2_with (refine wpList_load_mid rfl 24 _ rfl b19 0 rfl _ _ l19 Tryd.underlying24 rfl infoRule ?_)
      clear l19
      refine (stepL_ok 2 0 0 st qn (some ⟨gq, 0, none⟩) Nq Nq _ ⟨#[]⟩ wa 0 wc wz w9 HIQ.out tu0 (HW.out.keep HB.out) hwc (wfault_ok HDF.out (by rw [HW.out.len]; omega) HZ.out)).mono ?_
      rintro e0 w32 ⟨⟨az, cz, rfl, hcz, hIZ, _⟩, hb9⟩
      have HIZ := Lib.hid hIZ
      clear hIZ HIQ HR19
      have HX := Lib.hid (HX.out.keep hb9)
      have HB := Lib.hid (HB.out.trans (hb9.mono HB.out.size))
      clear hb9
      go_wp2_with fail
      refine (ints_same ax az 0 0 cx cz _ _ w32 HX.out HIZ.out (by rw [HWI.out]; exact HXE.out)).mono ?_
      rintro e0 w33 ⟨rfl, hb9⟩
      have HB := Lib.hid (HB.out.trans (hb9.mono HB.out.size))
      clear hb9
      go_wp2_with fail
      go_ret
      exact ⟨rfl, HB.out⟩
  · skip
    have hn0i : (0 : Int) < (wn : Int) := by omega
    go_upto_region 10 with fail
    have hdr : Below w4.heap.size w4 w4.drew := (Below.refl _ _).drew
    obtain ⟨b, hb⟩ : ∃ b, b = bof y wn := ⟨_, rfl⟩
    have HMC := Lib.hid (moved_any wa wn wc wz y w4.drew ((HW.out.keep HB.out).keep hdr) HZ0.out hn0 (by omega))
    rw [← hb] at HMC
    have HSC : Hid (∀ w6, Below w4.drew.heap.size w4.drew w6 → ∀ ao co, wn ≤ co → Ints.Is w6 ao wn (movL b wz) → Calls Tryd.prog 7 #[.agg #[.int .i64 K, .int .i64 B, .int .i64 S, .int .i64 (st : Nat), .int .i64 (ra : Nat), .slice ta tn tc, .string tu], .slice ao wn co] w6 fun e w' => (∃ a7 c7, e = .returned (.tuple #[.slice a7 wn c7, .nilIface]) ∧ Ints.Is w' a7 wn (movL b X)) ∧ Below w4.heap.size w4 w') := fun w6 h6 ao co hco hI => by
      refine (stepL_ok K B S st ra ta tn tc tz tu ao wn co (movL b wz) w6 (((HT.out.keep HB.out).keep hdr).keep h6) hu hI hco (wfault_ok HA.out (by rw [hI.len]; omega) (movL_mem (by omega) HZ.out))).mono ?_
      rintro e w' ⟨⟨a7, c7, rfl, h7, hI7, _⟩, hb2⟩
      rw [HMV.out hn0] at hI7
      exact ⟨⟨a7, c7, rfl, hI7⟩, (hdr.trans (h6.mono hdr.size)).trans (hb2.mono (hdr.trans (h6.mono hdr.size)).size)⟩
    obtain ⟨f0, f1, f2, f3, f4, f5, f6⟩ := one_cells HR5.out
    clear hdr
    go_region_with (first
      | (go_at_call 7
         refine (HSC.out _ hb6 _ _ hco hI).mono ?_
         rintro e2 w7 ⟨⟨a7, c7, rfl, hI7⟩, hb7⟩)
      | (go_at_call 8
         refine HMC.out.mono ?_
         rintro e1 w6 ⟨⟨ao, co, rfl, hco, hI⟩, hb6⟩
         obtain ⟨k0, k1, k2, k3, k4, k5, k6⟩ := one_cells (HR5.out.drew.keep hb6 HR5.out.drew.lt)))
    all_goals
      have HI7 := Lib.hid hI7
      clear f0 f1 f2 f3 f4 f5 f6 HMC HSC hI7
      try clear hI hb6 hco
      try clear k0 k1 k2 k3 k4 k5 k6
      have HR5 := Lib.hid (HR5.out.keep hb7 HR5.out.lt)
      have HR6 := Lib.hid (HR6.out.keep hb7 HR6.out.lt)
      have HX := Lib.hid (HX.out.keep hb7)
      have HB := Lib.hid (HB.out.trans (hb7.mono HB.out.size))
      clear hb7
      go_wp2_with fail
      refine (moved_any ax wn cx X y w7 HX.out (fun z hz => (HXM.out z hz).1) hn0 (by omega)).mono ?_
      rintro e0 w8 ⟨⟨az, cz, rfl, hcz, hIZ⟩, hb9⟩
      rw [← hb] at hIZ
      have HIZ := Lib.hid hIZ
      clear hIZ
      have HR5 := Lib.hid (HR5.out.keep hb9 HR5.out.lt)
      have HR6 := Lib.hid (HR6.out.keep hb9 HR6.out.lt)
      have HX := Lib.hid (HX.out.keep hb9)
      have HI7 := Lib.hid (HI7.out.keep hb9)
      have HB := Lib.hid (HB.out.trans (hb9.mono HB.out.size))
      clear hb9
      go_wp2_with fail
      refine (ints_same a7 az wn wn c7 cz _ _ w8 HI7.out HIZ.out rfl).mono ?_
      rintro e0 w10 ⟨rfl, hb9⟩
      clear HI7 HIZ hb
      have HR5 := Lib.hid (HR5.out.keep hb9 HR5.out.lt)
      have HR6 := Lib.hid (HR6.out.keep hb9 HR6.out.lt)
      have HX := Lib.hid (HX.out.keep hb9)
      have HB := Lib.hid (HB.out.trans (hb9.mono HB.out.size))
      clear hb9
      go_upto_region 15 with fail
      have l5 := row_range HR5.out
      have l6 := row_range HR6.out
      go_wp2_with (first | (refine wpList_load_mid rfl 24 _ rfl b5 0 rfl _ _ l5 Tryd.underlying24 rfl infoRule ?_) | (refine wpList_load_mid rfl 24 _ rfl b6 0 rfl _ _ l6 Tryd.underlying24 rfl infoRule ?_))
      clear l5 l6
      refine (compose_ok K B S st ra ta tn tc tz tu K' B' S' rb tb tm td tzb tu' w10 (HT.out.keep HB.out) hu (HT'.out.keep HB.out) hu' HA.out HBF.out N HN.out hN4).mono ?_
      rintro e0 w12 ⟨⟨g, rfl, _, hIc⟩, hb9⟩
      have HIC := Lib.hid hIc
      clear hIc
      have HR5 := Lib.hid (HR5.out.keep hb9 HR5.out.lt)
      have HR6 := Lib.hid (HR6.out.keep hb9 HR6.out.lt)
      have HX := Lib.hid (HX.out.keep hb9)
      have HB := Lib.hid (HB.out.trans (hb9.mono HB.out.size))
      clear hb9
      have HBS := Lib.hid HB.out
      have hr0 : Row (w12.alloc (.cells #[.int .i64 0, .int .i64 0, .int .i64 0, .int .i64 0, .int .i64 0, .slice none 0 0, .string ⟨#[]⟩] 24)) w12.heap.size 24 noRul := row_alloc w12 24 noRul
      have hb8 : Below w12.heap.size w12 (w12.alloc (.cells #[.int .i64 0, .int .i64 0, .int .i64 0, .int .i64 0, .int .i64 0, .slice none 0 0, .string ⟨#[]⟩] 24)) := (Below.refl _ _).alloc (Nat.le_refl _) _
      go_upto_region 16 with (refine Ops.wpList_store_arr rfl 24 _ _ rfl (w12.heap.size) rfl 24 _ (rulL 2 0 0 st (ra + rb : Nat) (some ⟨g, 0, none⟩) N N ⟨#[]⟩) rfl hr0 rfl infoRule (rul_one _ _ _ _ _ _ _ _ _) ?_; intro w9 hrow9 hon9)
      have hXF : Far w12.heap.size ax wn := far_of HX.out (Nat.le_refl _)
      have hb9 := hb8.trans (hon9.below (Nat.le_refl _))
      have HR19 := Lib.hid hrow9
      clear hb8 hon9 hrow9 hr0
      have HR5 := Lib.hid (HR5.out.keep hb9 HR5.out.lt)
      have HR6 := Lib.hid (HR6.out.keep hb9 HR6.out.lt)
      have HX := Lib.hid (HX.out.keep hb9)
      have HIC := Lib.hid (HIC.out.keep hb9)
      have HB := Lib.hid (HB.out.trans (hb9.mono HB.out.size))
      clear hb9
      obtain ⟨b19, hb19⟩ : ∃ b, b = w12.heap.size := ⟨_, rfl⟩
      have HB19 : Hid (w.heap.size ≤ b19) := by rw [hb19]; exact HBS.out.size
      rw [← hb19] at HR19 hXF ⊢
      have HXF := Lib.hid hXF
      clear hb19 HBS hXF
      have l6 := row_range HR6.out
      go_wp2_with (refine wpList_load_mid rfl 24 _ rfl b6 0 rfl _ _ l6 Tryd.underlying24 rfl infoRule ?_)
      clear l6
      refine (stepL_ok K' B' S' st rb tb tm td tzb tu' ax wn cx X w9 (HT'.out.keep HB.out) hu' HX.out hcx (wfault_ok HBF.out (by rw [HXL.out]; omega) HXM.out)).mono ?_
      rintro e0 w13 ⟨⟨ay, cy, rfl, hcy, hIY, _⟩, hb9⟩
      have HIY := Lib.hid hIY
      clear hIY
      have HR5 := Lib.hid (HR5.out.keep hb9 HR5.out.lt)
      have HR6 := Lib.hid (HR6.out.keep hb9 HR6.out.lt)
      have HX := Lib.hid (HX.out.keep hb9)
      have HIC := Lib.hid (HIC.out.keep hb9)
      have HR19 := Lib.hid (HR19.out.keep hb9 HR19.out.lt)
      have HB := Lib.hid (HB.out.trans (hb9.mono HB.out.size))
      clear hb9
      have l19 := row_range HR19.out
      go_wp2_with (refine wpList_load_mid rfl 24 _ rfl b19 0 rfl _ _ l19 Tryd.underlying24 rfl infoRule ?_)
      clear l19
      refine (stepL_ok 2 0 0 st (ra + rb) (some ⟨g, 0, none⟩) N N _ ⟨#[]⟩ wa wn wc wz w13 HIC.out tu0 (HW.out.keep HB.out) hwc (wfault_ok HCF.out (by rw [HW.out.len]; omega) HZ.out)).mono ?_
      rintro e0 w14 ⟨⟨az, cz, rfl, hcz, hIZ, _⟩, hb9⟩
      have HIZ := Lib.hid hIZ
      clear hIZ HIC
      have HR5 := Lib.hid (HR5.out.keep hb9 HR5.out.lt)
      have HR6 := Lib.hid (HR6.out.keep hb9 HR6.out.lt)
      have HX := Lib.hid (HX.out.keep hb9)
      have HR19 := Lib.hid (HR19.out.keep hb9 HR19.out.lt)
      have HIY := Lib.hid (HIY.out.keep hb9)
      have HB := Lib.hid (HB.out.trans (hb9.mono HB.out.size))
      clear hb9
      go_wp2_with fail
      refine (ints_same ay az wn wn cy cz _ _ w14 HIY.out HIZ.out HCO.out.symm).mono ?_
      rintro e0 w30 ⟨rfl, hb9⟩
      clear HIY HIZ
      have HR5 := Lib.hid (HR5.out.keep hb9 HR5.out.lt)
      have HR6 := Lib.hid (HR6.out.keep hb9 HR6.out.lt)
      have HX := Lib.hid (HX.out.keep hb9)
      have HR19 := Lib.hid (HR19.out.keep hb9 HR19.out.lt)
      have HB := Lib.hid (HB.out.trans (hb9.mono HB.out.size))
      clear hb9
      clear HR6
      rcases HDC.out with ⟨fd, hfd, hfd0⟩ | ⟨qn, hqn, hqr, Nq, hNq, hNq4, hdf, hWI⟩
      · have HFD := Lib.hid hfd
        clear hfd
        go_upto_region 22 with fail
        have l5 := row_range HR5.out
        go_wp2_with (refine wpList_load_mid rfl 24 _ rfl b5 0 rfl _ _ l5 Tryd.underlying24 rfl infoRule ?_)
        clear l5
        refine (widen_bad K B S st ra ta tn tc tz tu q fd w30 (HT.out.keep HB.out) hu HFD.out hfd0).mono ?_
        rintro e0 w31 ⟨rfl, hb9⟩
        have HR5 := Lib.hid (HR5.out.keep hb9 HR5.out.lt)
        have HX := Lib.hid (HX.out.keep hb9)
        have HR19 := Lib.hid (HR19.out.keep hb9 HR19.out.lt)
        have HB := Lib.hid (HB.out.trans (hb9.mono HB.out.size))
        clear hb9
        go_upto_region 23 with (refine Ops.wpList_store_arr rfl 24 _ _ rfl (b19) rfl 24 _ (noRul) rfl HR19.out rfl infoRule noRul_one ?_; intro w9 hrow9 hon9)
        have HB := Lib.hid (HB.out.trans (hon9.below HB19.out))
        go_wp2_with fail
        go_ret
        exact ⟨rfl, HB.out⟩
      · subst hqn
        have HWI := Lib.hid hWI
        have HNQ := Lib.hid hNq
        have HDF := Lib.hid hdf
        clear hWI hNq hdf
        go_upto_region 22 with fail
        have l5 := row_range HR5.out
        go_wp2_with (refine wpList_load_mid rfl 24 _ rfl b5 0 rfl _ _ l5 Tryd.underlying24 rfl infoRule ?_)
        clear l5
        refine (widen_ok K B S st ra ta tn tc tz tu qn w30 (HT.out.keep HB.out) hu HA.out hqr Nq HNQ.out hNq4).mono ?_
        rintro e0 w31 ⟨⟨gq, rfl, hgq, hIq⟩, hb9⟩
        have hgne : gq ≠ b19 := by have := HR19.out.lt; omega
        have HIQ := Lib.hid hIq
        clear hIq hgq
        have HR5 := Lib.hid (HR5.out.keep hb9 HR5.out.lt)
        have HX := Lib.hid (HX.out.keep hb9)
        have HR19 := Lib.hid (HR19.out.keep hb9 HR19.out.lt)
        have HB := Lib.hid (HB.out.trans (hb9.mono HB.out.size))
        clear hb9
        go_upto_region 23 with (refine Ops.wpList_store_arr rfl 24 _ _ rfl (b19) rfl 24 _ (rulL 2 0 0 st qn (some ⟨gq, 0, none⟩) Nq Nq ⟨#[]⟩) rfl HR19.out rfl infoRule (rul_one _ _ _ _ _ _ _ _ _) ?_; intro w9 hrow9 hon9)
        have HB := Lib.hid (HB.out.trans (hon9.below HB19.out))
        have HIQ := Lib.hid (is_other HIQ.out hon9 hgne)
        have HX := Lib.hid (is_only HX.out HXF.out hon9)
        have HR19 := Lib.hid hrow9
        clear hrow9 hon9
        have l19 := row_range HR19.out
        go_wp2_with (refine wpList_load_mid rfl 24 _ rfl b19 0 rfl _ _ l19 Tryd.underlying24 rfl infoRule ?_)
        clear l19
        refine (stepL_ok 2 0 0 st qn (some ⟨gq, 0, none⟩) Nq Nq _ ⟨#[]⟩ wa wn wc wz w9 HIQ.out tu0 (HW.out.keep HB.out) hwc (wfault_ok HDF.out (by rw [HW.out.len]; omega) HZ.out)).mono ?_
        rintro e0 w32 ⟨⟨az, cz, rfl, hcz, hIZ, _⟩, hb9⟩
        have HIZ := Lib.hid hIZ
        clear hIZ HIQ HR19
        have HX := Lib.hid (HX.out.keep hb9)
        have HB := Lib.hid (HB.out.trans (hb9.mono HB.out.size))
        clear hb9
        go_wp2_with fail
        refine (ints_same ax az wn wn cx cz _ _ w32 HX.out HIZ.out (by rw [HWI.out]; exact HXE.out)).mono ?_
        rintro e0 w33 ⟨rfl, hb9⟩
        have HB := Lib.hid (HB.out.trans (hb9.mono HB.out.size))
        clear hb9
        go_wp2_with fail
        go_ret
        exact ⟨rfl, HB.out⟩
set_option maxHeartbeats 8000000 in
set_option maxRecDepth 1000000 in
theorem lineShifts_ok2 (K B S : Int) (st ra : Nat) (ta : Option Addr) (tn tc : Nat) (tz : List Int) (tu : ByteArray) (K' B' S' st' rb : Int) (tb : Option Addr) (tm td : Nat) (tzb : List Int) (tu' : ByteArray) (wa : Option Addr) (wn wc : Nat) (wz : List Int) (y q : Int) (w : World) (hT : Ints.Is w ta tn tz) (hu : tu.size ≤ 9223372036854775807) (hT' : Ints.Is w tb tm tzb) (hu' : tu'.size ≤ 9223372036854775807) (hW : Ints.Is w wa wn wz) (hwc : wn ≤ wc) (hf : wfault K B S st ra tz tu wz = 0) (fc : Int) (hfc : cfault K B S st ra tz tu K' B' S' st' rb tzb tu' = fc) (hfc0 : fc ≠ 0) :
    Calls Tryd.prog 3 #[.agg #[.int .i64 K, .int .i64 B, .int .i64 S, .int .i64 st, .int .i64 ra, .slice ta tn tc, .string tu], .agg #[.int .i64 K', .int .i64 B', .int .i64 S', .int .i64 st', .int .i64 rb, .slice tb tm td, .string tu'], .slice wa wn wc, .int .i64 y, .int .i64 q] w fun e w' => e = .returned (.bool true) ∧ Below w.heap.size w w' := by
  have HT := Lib.hid hT
  have HT' := Lib.hid hT'
  have HW := Lib.hid hW
  have HF := Lib.hid hf
  obtain ⟨ho, hn, hz⟩ := wfault_zero hf
  obtain ⟨s, r, hs, hr', h2, h4, hr5, htn, htl, htz⟩ := ho.nat hT.len
  obtain rfl : st = s := by omega
  obtain rfl : ra = r := by omega
  have hwl := hW.len
  rw [hwl] at hn
  have HZ := Lib.hid hz
  have HZ0 := Lib.hid (fun z hzz => (hz z hzz).1)
  have HTL := Lib.hid (fun k => wf_lt (st := st) (by omega) htz k)
  have HA := Lib.hid (lfault_ok ho)
  obtain ⟨X, hX⟩ : ∃ X, X = stepL (wf tz) st ra wz := ⟨_, rfl⟩
  have HXL : Hid (X.length = wn) := by show X.length = wn; rw [hX, stepL_len, hwl]
  have HXM : Hid (∀ z ∈ X, 0 ≤ z ∧ z < (st : Int)) := by rw [hX]; exact stepL_mem HTL.out
  have HMV : Hid (0 < wn → ∀ b, stepL (wf tz) st ra (movL b wz) = movL b X) := fun h b => by rw [hX]; exact step_moved (by omega)
  have HXE := Lib.hid hX
  have HDC := Lib.hid (wide_cases (K := K) (B := B) (S := S) (tz := tz) (tu := tu) (wz := wz) (q := q) h2 HA.out hz)
  have HFC := Lib.hid hfc
  clear hfc
  clear hT hT' hW hf ho hz htz htn hs hr' hwl hX
  go_enter Tryd.func3, Tryd.ntmps3
  go_upto_region 1 with fail
  obtain ⟨hR5, hR6, hB⟩ := two_new w 24 24 (rulL K B S (st : Nat) (ra : Nat) ta tn tc tu) (rulL K' B' S' st' rb tb tm td tu')
  have HR5 : Hid (Row ((w.alloc (.cells #[.int .i64 K, .int .i64 B, .int .i64 S, .int .i64 (st : Nat), .int .i64 (ra : Nat), .slice ta tn tc, .string tu] 24)).alloc (.cells #[.int .i64 K', .int .i64 B', .int .i64 S', .int .i64 st', .int .i64 rb, .slice tb tm td, .string tu'] 24)) w.heap.size 24 (rulL K B S (st : Nat) (ra : Nat) ta tn tc tu)) := hR5
  have HR6 : Hid (Row ((w.alloc (.cells #[.int .i64 K, .int .i64 B, .int .i64 S, .int .i64 (st : Nat), .int .i64 (ra : Nat), .slice ta tn tc, .string tu] 24)).alloc (.cells #[.int .i64 K', .int .i64 B', .int .i64 S', .int .i64 st', .int .i64 rb, .slice tb tm td, .string tu'] 24)) (w.heap.size + 1) 24 (rulL K' B' S' st' rb tb tm td tu')) := hR6
  have HB : Hid (Below w.heap.size w ((w.alloc (.cells #[.int .i64 K, .int .i64 B, .int .i64 S, .int .i64 (st : Nat), .int .i64 (ra : Nat), .slice ta tn tc, .string tu] 24)).alloc (.cells #[.int .i64 K', .int .i64 B', .int .i64 S', .int .i64 st', .int .i64 rb, .slice tb tm td, .string tu'] 24))) := hB
  clear hR5 hR6 hB
  generalize (w.alloc (.cells #[.int .i64 K, .int .i64 B, .int .i64 S, .int .i64 (st : Nat), .int .i64 (ra : Nat), .slice ta tn tc, .string tu] 24)).alloc (.cells #[.int .i64 K', .int .i64 B', .int .i64 S', .int .i64 st', .int .i64 rb, .slice tb tm td, .string tu'] 24) = w1 at *
  obtain ⟨b5, hb5⟩ : ∃ b5, b5 = w.heap.size := ⟨_, rfl⟩
  obtain ⟨b6, hb6⟩ : ∃ b6, b6 = w.heap.size + 1 := ⟨_, rfl⟩
  rw [← hb6] at HR6 ⊢
  rw [← hb5] at HR5 ⊢
  clear hb5 hb6
  go_wp2_with fail
  obtain ⟨hRa, hRb, hb2⟩ := two_new w1 3 3 [.int .i64 1, .int .i64 0] [.int .i64 0, .int .i64 1]
  have HRa : Hid (Row ((w1.alloc (.cells #[.int .i64 1, .int .i64 0] 3)).alloc (.cells #[.int .i64 0, .int .i64 1] 3)) w1.heap.size 3 [.int .i64 1, .int .i64 0]) := hRa
  have HRb : Hid (Row ((w1.alloc (.cells #[.int .i64 1, .int .i64 0] 3)).alloc (.cells #[.int .i64 0, .int .i64 1] 3)) (w1.heap.size + 1) 3 [.int .i64 0, .int .i64 1]) := hRb
  have hb2 : Below w1.heap.size w1 ((w1.alloc (.cells #[.int .i64 1, .int .i64 0] 3)).alloc (.cells #[.int .i64 0, .int .i64 1] 3)) := hb2
  clear hRa hRb
  have HR5 := Lib.hid (HR5.out.keep hb2 HR5.out.lt)
  have HR6 := Lib.hid (HR6.out.keep hb2 HR6.out.lt)
  have HB := Lib.hid (HB.out.trans (hb2.mono HB.out.size))
  clear hb2
  generalize (w1.alloc (.cells #[.int .i64 1, .int .i64 0] 3)).alloc (.cells #[.int .i64 0, .int .i64 1] 3) = w2 at *
  refine (fact_any w2 _ _ (row_isN (zs := [1, 0]) HRa.out rfl (by decide)) (row_isN (zs := [0, 1]) HRb.out rfl (by decide))).mono ?_
  rintro e0 w3 ⟨⟨bo, oo, co, rfl, hc0, hc1⟩, hb9⟩
  clear HRa HRb
  have HR5 := Lib.hid (HR5.out.keep hb9 HR5.out.lt)
  have HR6 := Lib.hid (HR6.out.keep hb9 HR6.out.lt)
  have HB := Lib.hid (HB.out.trans (hb9.mono HB.out.size))
  clear hb9
  have l5 := row_range HR5.out
  go_wp2_with (refine wpList_load_mid rfl 24 _ rfl b5 0 rfl _ _ l5 Tryd.underlying24 rfl infoRule ?_)
  clear l5
  clear hc0 hc1
  refine (stepL_ok K B S st ra ta tn tc tz tu wa wn wc wz w3 (HT.out.keep HB.out) hu (HW.out.keep HB.out) hwc HF.out).mono ?_
  rintro e0 w4 ⟨⟨ax, cx, rfl, hcx, hIX, _⟩, hb9⟩
  rw [← HXE.out] at hIX
  have HX := Lib.hid hIX
  clear hIX HF
  have HR5 := Lib.hid (HR5.out.keep hb9 HR5.out.lt)
  have HR6 := Lib.hid (HR6.out.keep hb9 HR6.out.lt)
  have HB := Lib.hid (HB.out.trans (hb9.mono HB.out.size))
  clear hb9
  rcases Nat.eq_zero_or_pos wn with rfl | hn0
  · skip
    go_upto_region 15 with fail
    have l5 := row_range HR5.out
    have l6 := row_range HR6.out
    go_wp2_with (first | (refine wpList_load_mid rfl 24 _ rfl b5 0 rfl _ _ l5 Tryd.underlying24 rfl infoRule ?_) | (refine wpList_load_mid rfl 24 _ rfl b6 0 rfl _ _ l6 Tryd.underlying24 rfl infoRule ?_))
    clear l5 l6
    refine (compose_bad K B S st ra ta tn tc tz tu K' B' S' st' rb tb tm td tzb tu' fc w4 (HT.out.keep HB.out) hu (HT'.out.keep HB.out) hu' HFC.out hfc0).mono ?_
    rintro e0 w12 ⟨rfl, hb9⟩
    have HR5 := Lib.hid (HR5.out.keep hb9 HR5.out.lt)
    have HR6 := Lib.hid (HR6.out.keep hb9 HR6.out.lt)
    have HX := Lib.hid (HX.out.keep hb9)
    have HB := Lib.hid (HB.out.trans (hb9.mono HB.out.size))
    clear hb9
    have HBS := Lib.hid HB.out
    have hr0 : Row (w12.alloc (.cells #[.int .i64 0, .int .i64 0, .int .i64 0, .int .i64 0, .int .i64 0, .slice none 0 0, .string ⟨#[]⟩] 24)) w12.heap.size 24 noRul := row_alloc w12 24 noRul
    have hb8 : Below w12.heap.size w12 (w12.alloc (.cells #[.int .i64 0, .int .i64 0, .int .i64 0, .int .i64 0, .int .i64 0, .slice none 0 0, .string ⟨#[]⟩] 24)) := (Below.refl _ _).alloc (Nat.le_refl _) _
    go_upto_region 16 with (refine Ops.wpList_store_arr rfl 24 _ _ rfl (w12.heap.size) rfl 24 _ (noRul) rfl hr0 rfl infoRule noRul_one ?_; intro w9 hrow9 hon9)
    have hXF : Far w12.heap.size ax 0 := far_of HX.out (Nat.le_refl _)
    have hb9 := hb8.trans (hon9.below (Nat.le_refl _))
    have HR19 := Lib.hid hrow9
    clear hb8 hon9 hrow9 hr0
    have HR5 := Lib.hid (HR5.out.keep hb9 HR5.out.lt)
    have HR6 := Lib.hid (HR6.out.keep hb9 HR6.out.lt)
    have HX := Lib.hid (HX.out.keep hb9)
    have HB := Lib.hid (HB.out.trans (hb9.mono HB.out.size))
    clear hb9
    obtain ⟨b19, hb19⟩ : ∃ b, b = w12.heap.size := ⟨_, rfl⟩
    have HB19 : Hid (w.heap.size ≤ b19) := by rw [hb19]; exact HBS.out.size
    rw [← hb19] at HR19 hXF ⊢
    have HXF := Lib.hid hXF
    clear hb19 HBS hXF
    obtain ⟨w30, rfl⟩ : ∃ w30 : World, w30 = w9 := ⟨_, rfl⟩
    clear HR6
    rcases HDC.out with ⟨fd, hfd, hfd0⟩ | ⟨qn, hqn, hqr, Nq, hNq, hNq4, hdf, hWI⟩
    · have HFD := Lib.hid hfd
      clear hfd
      go_upto_region 22 with fail
      have l5 := row_range HR5.out
      go_wp2_with (refine wpList_load_mid rfl 24 _ rfl b5 0 rfl _ _ l5 Tryd.underlying24 rfl infoRule ?_)
      clear l5
      refine (widen_bad K B S st ra ta tn tc tz tu q fd w30 (HT.out.keep HB.out) hu HFD.out hfd0).mono ?_
      rintro e0 w31 ⟨rfl, hb9⟩
      have HR5 := Lib.hid (HR5.out.keep hb9 HR5.out.lt)
      have HX := Lib.hid (HX.out.keep hb9)
      have HR19 := Lib.hid (HR19.out.keep hb9 HR19.out.lt)
      have HB := Lib.hid (HB.out.trans (hb9.mono HB.out.size))
      clear hb9
      go_upto_region 23 with (refine Ops.wpList_store_arr rfl 24 _ _ rfl (b19) rfl 24 _ (noRul) rfl HR19.out rfl infoRule noRul_one ?_; intro w9 hrow9 hon9)
      have HB := Lib.hid (HB.out.trans (hon9.below HB19.out))
      go_wp2_with fail
      go_ret
      exact ⟨rfl, HB.out⟩
    · subst hqn
      have HWI := Lib.hid hWI
      have HNQ := Lib.hid hNq
      have HDF := Lib.hid hdf
      clear hWI hNq hdf
      go_upto_region 22 with fail
      have l5 := row_range HR5.out
      go_wp2_with (refine wpList_load_mid rfl 24 _ rfl b5 0 rfl _ _ l5 Tryd.underlying24 rfl infoRule ?_)
      clear l5
      refine (widen_ok K B S st ra ta tn tc tz tu qn w30 (HT.out.keep HB.out) hu HA.out hqr Nq HNQ.out hNq4).mono ?_
      rintro e0 w31 ⟨⟨gq, rfl, hgq, hIq⟩, hb9⟩
      have hgne : gq ≠ b19 := by have := HR19.out.lt; omega
      have HIQ := Lib.hid hIq
      clear hIq hgq
      have HR5 := Lib.hid (HR5.out.keep hb9 HR5.out.lt)
      have HX := Lib.hid (HX.out.keep hb9)
      have HR19 := Lib.hid (HR19.out.keep hb9 HR19.out.lt)
      have HB := Lib.hid (HB.out.trans (hb9.mono HB.out.size))
      clear hb9
      go_upto_region 23 with (refine Ops.wpList_store_arr rfl 24 _ _ rfl (b19) rfl 24 _ (rulL 2 0 0 st qn (some ⟨gq, 0, none⟩) Nq Nq ⟨#[]⟩) rfl HR19.out rfl infoRule (rul_one _ _ _ _ _ _ _ _ _) ?_; intro w9 hrow9 hon9)
      have HB := Lib.hid (HB.out.trans (hon9.below HB19.out))
      have HIQ := Lib.hid (is_other HIQ.out hon9 hgne)
      have HX := Lib.hid (is_only HX.out HXF.out hon9)
      have HR19 := Lib.hid hrow9
      clear hrow9 hon9
      have l19 := row_range HR19.out
      go_wp2_with (refine wpList_load_mid rfl 24 _ rfl b19 0 rfl _ _ l19 Tryd.underlying24 rfl infoRule ?_)
      clear l19
      refine (stepL_ok 2 0 0 st qn (some ⟨gq, 0, none⟩) Nq Nq _ ⟨#[]⟩ wa 0 wc wz w9 HIQ.out tu0 (HW.out.keep HB.out) hwc (wfault_ok HDF.out (by rw [HW.out.len]; omega) HZ.out)).mono ?_
      rintro e0 w32 ⟨⟨az, cz, rfl, hcz, hIZ, _⟩, hb9⟩
      have HIZ := Lib.hid hIZ
      clear hIZ HIQ HR19
      have HX := Lib.hid (HX.out.keep hb9)
      have HB := Lib.hid (HB.out.trans (hb9.mono HB.out.size))
      clear hb9
      go_wp2_with fail
      refine (ints_same ax az 0 0 cx cz _ _ w32 HX.out HIZ.out (by rw [HWI.out]; exact HXE.out)).mono ?_
      rintro e0 w33 ⟨rfl, hb9⟩
      have HB := Lib.hid (HB.out.trans (hb9.mono HB.out.size))
      clear hb9
      go_wp2_with fail
      go_ret
      exact ⟨rfl, HB.out⟩
  · skip
    have hn0i : (0 : Int) < (wn : Int) := by omega
    go_upto_region 10 with fail
    have hdr : Below w4.heap.size w4 w4.drew := (Below.refl _ _).drew
    obtain ⟨b, hb⟩ : ∃ b, b = bof y wn := ⟨_, rfl⟩
    have HMC := Lib.hid (moved_any wa wn wc wz y w4.drew ((HW.out.keep HB.out).keep hdr) HZ0.out hn0 (by omega))
    rw [← hb] at HMC
    have HSC : Hid (∀ w6, Below w4.drew.heap.size w4.drew w6 → ∀ ao co, wn ≤ co → Ints.Is w6 ao wn (movL b wz) → Calls Tryd.prog 7 #[.agg #[.int .i64 K, .int .i64 B, .int .i64 S, .int .i64 (st : Nat), .int .i64 (ra : Nat), .slice ta tn tc, .string tu], .slice ao wn co] w6 fun e w' => (∃ a7 c7, e = .returned (.tuple #[.slice a7 wn c7, .nilIface]) ∧ Ints.Is w' a7 wn (movL b X)) ∧ Below w4.heap.size w4 w') := fun w6 h6 ao co hco hI => by
      refine (stepL_ok K B S st ra ta tn tc tz tu ao wn co (movL b wz) w6 (((HT.out.keep HB.out).keep hdr).keep h6) hu hI hco (wfault_ok HA.out (by rw [hI.len]; omega) (movL_mem (by omega) HZ.out))).mono ?_
      rintro e w' ⟨⟨a7, c7, rfl, h7, hI7, _⟩, hb2⟩
      rw [HMV.out hn0] at hI7
      exact ⟨⟨a7, c7, rfl, hI7⟩, (hdr.trans (h6.mono hdr.size)).trans (hb2.mono (hdr.trans (h6.mono hdr.size)).size)⟩
    obtain ⟨f0, f1, f2, f3, f4, f5, f6⟩ := one_cells HR5.out
    clear hdr
    go_region_with (first
      | (go_at_call 7
         refine (HSC.out _ hb6 _ _ hco hI).mono ?_
         rintro e2 w7 ⟨⟨a7, c7, rfl, hI7⟩, hb7⟩)
      | (go_at_call 8
         refine HMC.out.mono ?_
         rintro e1 w6 ⟨⟨ao, co, rfl, hco, hI⟩, hb6⟩
         obtain ⟨k0, k1, k2, k3, k4, k5, k6⟩ := one_cells (HR5.out.drew.keep hb6 HR5.out.drew.lt)))
    all_goals
      have HI7 := Lib.hid hI7
      clear f0 f1 f2 f3 f4 f5 f6 HMC HSC hI7
      try clear hI hb6 hco
      try clear k0 k1 k2 k3 k4 k5 k6
      have HR5 := Lib.hid (HR5.out.keep hb7 HR5.out.lt)
      have HR6 := Lib.hid (HR6.out.keep hb7 HR6.out.lt)
      have HX := Lib.hid (HX.out.keep hb7)
      have HB := Lib.hid (HB.out.trans (hb7.mono HB.out.size))
      clear hb7
      go_wp2_with fail
      refine (moved_any ax wn cx X y w7 HX.out (fun z hz => (HXM.out z hz).1) hn0 (by omega)).mono ?_
      rintro e0 w8 ⟨⟨az, cz, rfl, hcz, hIZ⟩, hb9⟩
      rw [← hb] at hIZ
      have HIZ := Lib.hid hIZ
      clear hIZ
      have HR5 := Lib.hid (HR5.out.keep hb9 HR5.out.lt)
      have HR6 := Lib.hid (HR6.out.keep hb9 HR6.out.lt)
      have HX := Lib.hid (HX.out.keep hb9)
      have HI7 := Lib.hid (HI7.out.keep hb9)
      have HB := Lib.hid (HB.out.trans (hb9.mono HB.out.size))
      clear hb9
      go_wp2_with fail
      refine (ints_same a7 az wn wn c7 cz _ _ w8 HI7.out HIZ.out rfl).mono ?_
      rintro e0 w10 ⟨rfl, hb9⟩
      clear HI7 HIZ hb
      have HR5 := Lib.hid (HR5.out.keep hb9 HR5.out.lt)
      have HR6 := Lib.hid (HR6.out.keep hb9 HR6.out.lt)
      have HX := Lib.hid (HX.out.keep hb9)
      have HB := Lib.hid (HB.out.trans (hb9.mono HB.out.size))
      clear hb9
      go_upto_region 15 with fail
      have l5 := row_range HR5.out
      have l6 := row_range HR6.out
      go_wp2_with (first | (refine wpList_load_mid rfl 24 _ rfl b5 0 rfl _ _ l5 Tryd.underlying24 rfl infoRule ?_) | (refine wpList_load_mid rfl 24 _ rfl b6 0 rfl _ _ l6 Tryd.underlying24 rfl infoRule ?_))
      clear l5 l6
      refine (compose_bad K B S st ra ta tn tc tz tu K' B' S' st' rb tb tm td tzb tu' fc w10 (HT.out.keep HB.out) hu (HT'.out.keep HB.out) hu' HFC.out hfc0).mono ?_
      rintro e0 w12 ⟨rfl, hb9⟩
      have HR5 := Lib.hid (HR5.out.keep hb9 HR5.out.lt)
      have HR6 := Lib.hid (HR6.out.keep hb9 HR6.out.lt)
      have HX := Lib.hid (HX.out.keep hb9)
      have HB := Lib.hid (HB.out.trans (hb9.mono HB.out.size))
      clear hb9
      have HBS := Lib.hid HB.out
      have hr0 : Row (w12.alloc (.cells #[.int .i64 0, .int .i64 0, .int .i64 0, .int .i64 0, .int .i64 0, .slice none 0 0, .string ⟨#[]⟩] 24)) w12.heap.size 24 noRul := row_alloc w12 24 noRul
      have hb8 : Below w12.heap.size w12 (w12.alloc (.cells #[.int .i64 0, .int .i64 0, .int .i64 0, .int .i64 0, .int .i64 0, .slice none 0 0, .string ⟨#[]⟩] 24)) := (Below.refl _ _).alloc (Nat.le_refl _) _
      go_upto_region 16 with (refine Ops.wpList_store_arr rfl 24 _ _ rfl (w12.heap.size) rfl 24 _ (noRul) rfl hr0 rfl infoRule noRul_one ?_; intro w9 hrow9 hon9)
      have hXF : Far w12.heap.size ax wn := far_of HX.out (Nat.le_refl _)
      have hb9 := hb8.trans (hon9.below (Nat.le_refl _))
      have HR19 := Lib.hid hrow9
      clear hb8 hon9 hrow9 hr0
      have HR5 := Lib.hid (HR5.out.keep hb9 HR5.out.lt)
      have HR6 := Lib.hid (HR6.out.keep hb9 HR6.out.lt)
      have HX := Lib.hid (HX.out.keep hb9)
      have HB := Lib.hid (HB.out.trans (hb9.mono HB.out.size))
      clear hb9
      obtain ⟨b19, hb19⟩ : ∃ b, b = w12.heap.size := ⟨_, rfl⟩
      have HB19 : Hid (w.heap.size ≤ b19) := by rw [hb19]; exact HBS.out.size
      rw [← hb19] at HR19 hXF ⊢
      have HXF := Lib.hid hXF
      clear hb19 HBS hXF
      obtain ⟨w30, rfl⟩ : ∃ w30 : World, w30 = w9 := ⟨_, rfl⟩
      clear HR6
      rcases HDC.out with ⟨fd, hfd, hfd0⟩ | ⟨qn, hqn, hqr, Nq, hNq, hNq4, hdf, hWI⟩
      · have HFD := Lib.hid hfd
        clear hfd
        go_upto_region 22 with fail
        have l5 := row_range HR5.out
        go_wp2_with (refine wpList_load_mid rfl 24 _ rfl b5 0 rfl _ _ l5 Tryd.underlying24 rfl infoRule ?_)
        clear l5
        refine (widen_bad K B S st ra ta tn tc tz tu q fd w30 (HT.out.keep HB.out) hu HFD.out hfd0).mono ?_
        rintro e0 w31 ⟨rfl, hb9⟩
        have HR5 := Lib.hid (HR5.out.keep hb9 HR5.out.lt)
        have HX := Lib.hid (HX.out.keep hb9)
        have HR19 := Lib.hid (HR19.out.keep hb9 HR19.out.lt)
        have HB := Lib.hid (HB.out.trans (hb9.mono HB.out.size))
        clear hb9
        go_upto_region 23 with (refine Ops.wpList_store_arr rfl 24 _ _ rfl (b19) rfl 24 _ (noRul) rfl HR19.out rfl infoRule noRul_one ?_; intro w9 hrow9 hon9)
        have HB := Lib.hid (HB.out.trans (hon9.below HB19.out))
        go_wp2_with fail
        go_ret
        exact ⟨rfl, HB.out⟩
      · subst hqn
        have HWI := Lib.hid hWI
        have HNQ := Lib.hid hNq
        have HDF := Lib.hid hdf
        clear hWI hNq hdf
        go_upto_region 22 with fail
        have l5 := row_range HR5.out
        go_wp2_with (refine wpList_load_mid rfl 24 _ rfl b5 0 rfl _ _ l5 Tryd.underlying24 rfl infoRule ?_)
        clear l5
        refine (widen_ok K B S st ra ta tn tc tz tu qn w30 (HT.out.keep HB.out) hu HA.out hqr Nq HNQ.out hNq4).mono ?_
        rintro e0 w31 ⟨⟨gq, rfl, hgq, hIq⟩, hb9⟩
        have hgne : gq ≠ b19 := by have := HR19.out.lt; omega
        have HIQ := Lib.hid hIq
        clear hIq hgq
        have HR5 := Lib.hid (HR5.out.keep hb9 HR5.out.lt)
        have HX := Lib.hid (HX.out.keep hb9)
        have HR19 := Lib.hid (HR19.out.keep hb9 HR19.out.lt)
        have HB := Lib.hid (HB.out.trans (hb9.mono HB.out.size))
        clear hb9
        go_upto_region 23 with (refine Ops.wpList_store_arr rfl 24 _ _ rfl (b19) rfl 24 _ (rulL 2 0 0 st qn (some ⟨gq, 0, none⟩) Nq Nq ⟨#[]⟩) rfl HR19.out rfl infoRule (rul_one _ _ _ _ _ _ _ _ _) ?_; intro w9 hrow9 hon9)
        have HB := Lib.hid (HB.out.trans (hon9.below HB19.out))
        have HIQ := Lib.hid (is_other HIQ.out hon9 hgne)
        have HX := Lib.hid (is_only HX.out HXF.out hon9)
        have HR19 := Lib.hid hrow9
        clear hrow9 hon9
        have l19 := row_range HR19.out
        go_wp2_with (refine wpList_load_mid rfl 24 _ rfl b19 0 rfl _ _ l19 Tryd.underlying24 rfl infoRule ?_)
        clear l19
        refine (stepL_ok 2 0 0 st qn (some ⟨gq, 0, none⟩) Nq Nq _ ⟨#[]⟩ wa wn wc wz w9 HIQ.out tu0 (HW.out.keep HB.out) hwc (wfault_ok HDF.out (by rw [HW.out.len]; omega) HZ.out)).mono ?_
        rintro e0 w32 ⟨⟨az, cz, rfl, hcz, hIZ, _⟩, hb9⟩
        have HIZ := Lib.hid hIZ
        clear hIZ HIQ HR19
        have HX := Lib.hid (HX.out.keep hb9)
        have HB := Lib.hid (HB.out.trans (hb9.mono HB.out.size))
        clear hb9
        go_wp2_with fail
        refine (ints_same ax az wn wn cx cz _ _ w32 HX.out HIZ.out (by rw [HWI.out]; exact HXE.out)).mono ?_
        rintro e0 w33 ⟨rfl, hb9⟩
        have HB := Lib.hid (HB.out.trans (hb9.mono HB.out.size))
        clear hb9
        go_wp2_with fail
        go_ret
        exact ⟨rfl, HB.out⟩
theorem lineShifts_any (K B S st ra : Int) (ta : Option Addr) (tn tc : Nat) (tz : List Int) (tu : ByteArray) (K' B' S' st' rb : Int) (tb : Option Addr) (tm td : Nat) (tzb : List Int) (tu' : ByteArray) (wa : Option Addr) (wn wc : Nat) (wz : List Int) (y q : Int) (w : World) (hT : Ints.Is w ta tn tz) (hu : tu.size ≤ 9223372036854775807) (hT' : Ints.Is w tb tm tzb) (hu' : tu'.size ≤ 9223372036854775807) (hW : Ints.Is w wa wn wz) (hwc : wn ≤ wc) :
    Calls Tryd.prog 3 #[.agg #[.int .i64 K, .int .i64 B, .int .i64 S, .int .i64 st, .int .i64 ra, .slice ta tn tc, .string tu], .agg #[.int .i64 K', .int .i64 B', .int .i64 S', .int .i64 st', .int .i64 rb, .slice tb tm td, .string tu'], .slice wa wn wc, .int .i64 y, .int .i64 q] w fun e w' => e = .returned (.bool true) ∧ Below w.heap.size w w' := by
  by_cases hf : wfault K B S st ra tz tu wz = 0
  · obtain ⟨ho, hn, hz⟩ := wfault_zero hf
    obtain ⟨s, r, rfl, rfl, h2, h4, hr5, htn, htl, htz⟩ := ho.nat hT.len
    rcases comp_cases (K' := K') (B' := B') (S' := S') (st' := st') (rb := rb) (tz' := tzb) (tu' := tu') (lfault_ok ho) with ⟨fc, hfc, hfc0⟩ | ⟨r', rfl, rfl, hbf, N, hN, hN4⟩
    · exact lineShifts_ok2 K B S s r ta tn tc tz tu K' B' S' st' rb tb tm td tzb tu' wa wn wc wz y q w hT hu hT' hu' hW hwc hf fc hfc hfc0
    · exact lineShifts_ok1 K B S s r ta tn tc tz tu K' B' S' r' tb tm td tzb tu' wa wn wc wz y q w hT hu hT' hu' hW hwc hf hbf N hN hN4
  · exact lineShifts_bad K B S st ra ta tn tc tz tu K' B' S' st' rb tb tm td tzb tu' wa wn wc wz y q w _ hT hu hT' hu' hW hwc rfl hf
end Ln
end Go.Proofs.YtgefikkklbjcbaaDoor
