/- WALK: plane.Again and plane.Grow where something is wrong. -/
import Derived.Test.YtdckcejkliggfaaDoorPnX
namespace Go.Proofs.YtdckcejkliggfaaDoor
set_option linter.unusedSimpArgs false
set_option linter.unusedVariables false
open Go.RowKit
namespace Pn
open Tld Mem Bl

theorem pfault_flat {W H : Nat} {c : Nat → Nat → Nat} (hW : W ≤ 100) (hH : H ≤ 100) (h : ∀ x y, c x y < 2) : pfault W H (flat W H c) = 0 := by
  unfold pfault
  have h1 : okSides (W : Int) (H : Int) := by unfold okSides; omega
  have h2 : ((flat W H c).length : Int) = (W : Int) * (H : Int) := by rw [flat_len]; push_cast; rfl
  have h3 : ¬ (flat W H c).any cbad = true := by
    rw [Bool.not_eq_true, List.any_eq_false]
    intro z hz
    unfold flat at hz
    obtain ⟨k, _, rfl⟩ := List.mem_map.1 hz
    have := h (k % W) (k / W)
    unfold cbad
    simp
    omega
  rw [if_neg (fun x => x h1), if_neg (fun x => x h2), if_neg h3]
theorem plf_same {K B S st ra : Int} {tn : Nat} {tz : List Int} {tu : ByteArray} {W H W' H' : Int} {zs zs' : List Int} (h : plf K B S st ra tn tz tu W H zs = 0) (hp : pfault W' H' zs' = 0) : plf K B S st ra tn tz tu W' H' zs' = 0 := by
  have hk := (plf_zero h).1
  unfold plf at h ⊢
  by_cases h1 : rulf K B S st ra tn tz tu = 0
  · rw [if_neg (fun x => x h1), if_neg (fun x => x hp), if_neg (fun x => x hk)]
  · rw [if_pos h1] at h; exact absurd h h1

/-- What is wrong with a rule, a pattern and a number. -/
noncomputable def afl (K B S st ra : Int) (tn : Nat) (tz : List Int) (tu : ByteArray) (W H : Int) (zs : List Int) (m : Int) : Int := if plf K B S st ra tn tz tu W H zs ≠ 0 then plf K B S st ra tn tz tu W H zs else if B % 2 = 1 ∨ m < 1 ∨ 64 < m then 1 else 0
set_option maxHeartbeats 8000000 in
set_option maxRecDepth 1000000 in
theorem again_bad (K B S st ra : Int) (ta : Option Addr) (tn tc : Nat) (tz : List Int) (tu : ByteArray) (W H : Int) (a : Option Addr) (n c : Nat) (zs : List Int) (m : Int) (w : World) (hT : Ints.Is w ta tn tz) (hu : tu.size ≤ 9223372036854775807) (hZ : Ints.Is w a n zs) (hf : afl K B S st ra tn tz tu W H zs m ≠ 0) :
    Calls Tryd.prog 10 #[.agg #[.int .i64 K, .int .i64 B, .int .i64 S, .int .i64 st, .int .i64 ra, .slice ta tn tc, .string tu], .agg #[.int .i64 W, .int .i64 H, .slice a n c], .int .i64 m] w fun e w' => e = .returned (.tuple #[.agg #[.int .i64 0, .int .i64 0, .int .i64 0], errV (afl K B S st ra tn tz tu W H zs m)]) ∧ Below w.heap.size w w' := by
  have HK := Lib.hid (fun w2 (h : Below w.heap.size w w2) => check_any K B S st ra ta tn tc tz tu W H a n c zs w2 (hT.keep h) hu (hZ.keep h))
  have HPZ := Lib.hid (fun h => plf_zero (K := K) (B := B) (S := S) (st := st) (ra := ra) (tn := tn) (tz := tz) (tu := tu) (W := W) (H := H) (zs := zs) h)
  obtain ⟨e1, he1⟩ : ∃ e1, e1 = plf K B S st ra tn tz tu W H zs := ⟨_, rfl⟩
  obtain ⟨ev, hev⟩ : ∃ ev, ev = afl K B S st ra tn tz tu W H zs m := ⟨_, rfl⟩
  have HF : Hid (ev = if e1 ≠ 0 then e1 else if B % 2 = 1 ∨ m < 1 ∨ 64 < m then 1 else 0) := Lib.hid (by rw [hev, he1]; rfl)
  rw [← he1] at HK HPZ
  rw [← hev] at hf ⊢
  have HNZ := Lib.hid hf
  clear hT hu hZ he1 hev hf
  go_enter Tryd.func10, Tryd.ntmps10
  go_upto_region 1 with fail
  obtain ⟨hr1, hr2, hr3, hb2⟩ := three_new w 24 26 35 (rulP K B S st ra ta tn tc tu) (boxP W H a n c) z3
  have HU : Hid (Row (((w.alloc (.cells #[.int .i64 K, .int .i64 B, .int .i64 S, .int .i64 st, .int .i64 ra, .slice ta tn tc, .string tu] 24)).alloc (.cells #[.int .i64 W, .int .i64 H, .slice a n c] 26)).alloc (.cells #[.int .i64 0, .int .i64 0, .int .i64 0] 35)) w.heap.size 24 (rulP K B S st ra ta tn tc tu)) := hr1
  have HP : Hid (Row (((w.alloc (.cells #[.int .i64 K, .int .i64 B, .int .i64 S, .int .i64 st, .int .i64 ra, .slice ta tn tc, .string tu] 24)).alloc (.cells #[.int .i64 W, .int .i64 H, .slice a n c] 26)).alloc (.cells #[.int .i64 0, .int .i64 0, .int .i64 0] 35)) (w.heap.size + 1) 26 (boxP W H a n c)) := hr2
  have HR : Hid (Row (((w.alloc (.cells #[.int .i64 K, .int .i64 B, .int .i64 S, .int .i64 st, .int .i64 ra, .slice ta tn tc, .string tu] 24)).alloc (.cells #[.int .i64 W, .int .i64 H, .slice a n c] 26)).alloc (.cells #[.int .i64 0, .int .i64 0, .int .i64 0] 35)) (w.heap.size + 1 + 1) 35 z3) := hr3
  have HB : Hid (Below w.heap.size w (((w.alloc (.cells #[.int .i64 K, .int .i64 B, .int .i64 S, .int .i64 st, .int .i64 ra, .slice ta tn tc, .string tu] 24)).alloc (.cells #[.int .i64 W, .int .i64 H, .slice a n c] 26)).alloc (.cells #[.int .i64 0, .int .i64 0, .int .i64 0] 35))) := hb2
  clear hr1 hr2 hr3 hb2
  generalize ((w.alloc (.cells #[.int .i64 K, .int .i64 B, .int .i64 S, .int .i64 st, .int .i64 ra, .slice ta tn tc, .string tu] 24)).alloc (.cells #[.int .i64 W, .int .i64 H, .slice a n c] 26)).alloc (.cells #[.int .i64 0, .int .i64 0, .int .i64 0] 35) = w1 at *
  obtain ⟨ub, hub⟩ : ∃ ub, ub = w.heap.size := ⟨_, rfl⟩
  rw [← hub] at HU HP HR ⊢
  obtain ⟨pb, hpb⟩ : ∃ pb, pb = ub + 1 := ⟨_, rfl⟩
  rw [← hpb] at HP HR ⊢
  obtain ⟨rb, hrb⟩ : ∃ rb, rb = pb + 1 := ⟨_, rfl⟩
  rw [← hrb] at HR ⊢
  have HRB : Hid (w.heap.size ≤ rb ∧ ub ≠ rb) := Lib.hid (by omega)
  clear hub hpb hrb
  have l5 := row_range HU.out
  have l6 := row_range HP.out
  go_wp2_with (first | (refine wpList_load_mid rfl 24 _ rfl ub 0 rfl _ _ l5 Tryd.underlying24 rfl infoRule ?_) | (refine wpList_load_mid rfl 26 _ rfl pb 0 rfl _ _ l6 Tryd.underlying26 rfl infoPat ?_))
  refine (HK.out _ HB.out).mono ?_
  rintro e2 w2 ⟨rfl, hb2⟩
  have HU := Lib.hid (HU.out.keep hb2 HU.out.lt)
  have HR := Lib.hid (HR.out.keep hb2 HR.out.lt)
  have HB := Lib.hid (HB.out.trans (hb2.mono HB.out.size))
  clear l5 l6 hb2
  by_cases h1 : e1 = 0
  · rw [errV_zero h1]
    obtain ⟨Bn, hBn, hBl⟩ := bits_nat (HPZ.out h1).2.1.b
    have hcond : B % 2 = 1 ∨ m < 1 ∨ 64 < m := by
      have h2 := HNZ.out
      rw [HF.out, if_neg (fun x => x h1)] at h2
      by_cases h3 : B % 2 = 1 ∨ m < 1 ∨ 64 < m
      · exact h3
      · rw [if_neg h3] at h2; exact absurd rfl h2
    have HV : Hid (ev = 1) := Lib.hid (by rw [HF.out, if_neg (fun x => x h1), if_pos hcond])
    have f1 := HU.out.cell 1
    unfold rulP at f1
    dsimp only [List.getElem?_cons_succ, List.getElem?_cons_zero] at f1
    subst hBn
    have hand := and1 hBl
    rcases (show Bn % 2 = 1 ∨ (Bn % 2 = 0 ∧ m < 1) ∨ (Bn % 2 = 0 ∧ ¬ m < 1 ∧ 64 < m) by omega) with h | ⟨h, h2⟩ | ⟨h, h2, h3⟩
    all_goals
      rw [h] at hand
      clear hcond h h1 hBl
      go_wp2_with (refine Ops.wpList_store_arr rfl 35 _ _ rfl rb rfl 35 _ z3 rfl HR.out rfl infoAgain (agn_one _ _ _) ?_; intro w5 hrow5 hon5)
      exact bodyPost_ret (results_again (t := 6) (u := 7) (e := errV 1) rfl _ _ hrow5 rfl rfl rfl ) rfl ⟨by rw [HV.out]; rfl, HB.out.trans (hon5.below HRB.out.1)⟩
  · have HV : Hid (ev = e1) := Lib.hid (by rw [HF.out]; exact if_pos h1)
    have HVE := Lib.hid (errV_some h1)
    rw [errV_some h1]
    clear h1
    go_wp2_with (refine Ops.wpList_store_arr rfl 35 _ _ rfl rb rfl 35 _ z3 rfl HR.out rfl infoAgain (agn_one _ _ _) ?_; intro w5 hrow5 hon5)
    exact bodyPost_ret (results_again (t := 6) (u := 7) (e := .iface 51 (.int .i64 e1)) rfl _ _ hrow5 rfl rfl rfl ) rfl ⟨by rw [HV.out, HVE.out]; rfl, HB.out.trans (hon5.below HRB.out.1)⟩

/-- What is wrong with a rule, a pattern and a number. -/
noncomputable def gfl (K B S st ra : Int) (tn : Nat) (tz : List Int) (tu : ByteArray) (W H : Int) (zs : List Int) (m : Int) : Int := if plf K B S st ra tn tz tu W H zs ≠ 0 then plf K B S st ra tn tz tu W H zs else if B % 2 = 1 ∨ m < 0 ∨ 100000 < m then 1 else 0
set_option maxHeartbeats 8000000 in
set_option maxRecDepth 1000000 in
theorem grow_bad (K B S st ra : Int) (ta : Option Addr) (tn tc : Nat) (tz : List Int) (tu : ByteArray) (W H : Int) (a : Option Addr) (n c : Nat) (zs : List Int) (m : Int) (w : World) (hT : Ints.Is w ta tn tz) (hu : tu.size ≤ 9223372036854775807) (hZ : Ints.Is w a n zs) (hf : gfl K B S st ra tn tz tu W H zs m ≠ 0) :
    Calls Tryd.prog 15 #[.agg #[.int .i64 K, .int .i64 B, .int .i64 S, .int .i64 st, .int .i64 ra, .slice ta tn tc, .string tu], .agg #[.int .i64 W, .int .i64 H, .slice a n c], .int .i64 m] w fun e w' => e = .returned (.tuple #[.agg #[.int .i64 0, .int .i64 0, .slice none 0 0], .int .i64 0, .int .i64 0, errV (gfl K B S st ra tn tz tu W H zs m)]) ∧ Below w.heap.size w w' := by
  have HK := Lib.hid (fun w2 (h : Below w.heap.size w w2) => check_any K B S st ra ta tn tc tz tu W H a n c zs w2 (hT.keep h) hu (hZ.keep h))
  have HPZ := Lib.hid (fun h => plf_zero (K := K) (B := B) (S := S) (st := st) (ra := ra) (tn := tn) (tz := tz) (tu := tu) (W := W) (H := H) (zs := zs) h)
  obtain ⟨e1, he1⟩ : ∃ e1, e1 = plf K B S st ra tn tz tu W H zs := ⟨_, rfl⟩
  obtain ⟨ev, hev⟩ : ∃ ev, ev = gfl K B S st ra tn tz tu W H zs m := ⟨_, rfl⟩
  have HF : Hid (ev = if e1 ≠ 0 then e1 else if B % 2 = 1 ∨ m < 0 ∨ 100000 < m then 1 else 0) := Lib.hid (by rw [hev, he1]; rfl)
  rw [← he1] at HK HPZ
  rw [← hev] at hf ⊢
  have HNZ := Lib.hid hf
  clear hT hu hZ he1 hev hf
  go_enter Tryd.func15, Tryd.ntmps15
  go_upto_region 1 with fail
  obtain ⟨hr1, hr2, hr3, hb2⟩ := three_new w 24 26 26 (rulP K B S st ra ta tn tc tu) (boxP W H a n c) noPat
  have HU : Hid (Row (((w.alloc (.cells #[.int .i64 K, .int .i64 B, .int .i64 S, .int .i64 st, .int .i64 ra, .slice ta tn tc, .string tu] 24)).alloc (.cells #[.int .i64 W, .int .i64 H, .slice a n c] 26)).alloc (.cells #[.int .i64 0, .int .i64 0, .slice none 0 0] 26)) w.heap.size 24 (rulP K B S st ra ta tn tc tu)) := hr1
  have HP : Hid (Row (((w.alloc (.cells #[.int .i64 K, .int .i64 B, .int .i64 S, .int .i64 st, .int .i64 ra, .slice ta tn tc, .string tu] 24)).alloc (.cells #[.int .i64 W, .int .i64 H, .slice a n c] 26)).alloc (.cells #[.int .i64 0, .int .i64 0, .slice none 0 0] 26)) (w.heap.size + 1) 26 (boxP W H a n c)) := hr2
  have HR : Hid (Row (((w.alloc (.cells #[.int .i64 K, .int .i64 B, .int .i64 S, .int .i64 st, .int .i64 ra, .slice ta tn tc, .string tu] 24)).alloc (.cells #[.int .i64 W, .int .i64 H, .slice a n c] 26)).alloc (.cells #[.int .i64 0, .int .i64 0, .slice none 0 0] 26)) (w.heap.size + 1 + 1) 26 noPat) := hr3
  have HB : Hid (Below w.heap.size w (((w.alloc (.cells #[.int .i64 K, .int .i64 B, .int .i64 S, .int .i64 st, .int .i64 ra, .slice ta tn tc, .string tu] 24)).alloc (.cells #[.int .i64 W, .int .i64 H, .slice a n c] 26)).alloc (.cells #[.int .i64 0, .int .i64 0, .slice none 0 0] 26))) := hb2
  clear hr1 hr2 hr3 hb2
  generalize ((w.alloc (.cells #[.int .i64 K, .int .i64 B, .int .i64 S, .int .i64 st, .int .i64 ra, .slice ta tn tc, .string tu] 24)).alloc (.cells #[.int .i64 W, .int .i64 H, .slice a n c] 26)).alloc (.cells #[.int .i64 0, .int .i64 0, .slice none 0 0] 26) = w1 at *
  obtain ⟨ub, hub⟩ : ∃ ub, ub = w.heap.size := ⟨_, rfl⟩
  rw [← hub] at HU HP HR ⊢
  obtain ⟨pb, hpb⟩ : ∃ pb, pb = ub + 1 := ⟨_, rfl⟩
  rw [← hpb] at HP HR ⊢
  obtain ⟨rb, hrb⟩ : ∃ rb, rb = pb + 1 := ⟨_, rfl⟩
  rw [← hrb] at HR ⊢
  have HRB : Hid (w.heap.size ≤ rb ∧ ub ≠ rb) := Lib.hid (by omega)
  clear hub hpb hrb
  have l5 := row_range HU.out
  have l6 := row_range HP.out
  go_wp2_with (first | (refine wpList_load_mid rfl 24 _ rfl ub 0 rfl _ _ l5 Tryd.underlying24 rfl infoRule ?_) | (refine wpList_load_mid rfl 26 _ rfl pb 0 rfl _ _ l6 Tryd.underlying26 rfl infoPat ?_))
  refine (HK.out _ HB.out).mono ?_
  rintro e2 w2 ⟨rfl, hb2⟩
  have HU := Lib.hid (HU.out.keep hb2 HU.out.lt)
  have HR := Lib.hid (HR.out.keep hb2 HR.out.lt)
  have HB := Lib.hid (HB.out.trans (hb2.mono HB.out.size))
  clear l5 l6 hb2
  by_cases h1 : e1 = 0
  · rw [errV_zero h1]
    obtain ⟨Bn, hBn, hBl⟩ := bits_nat (HPZ.out h1).2.1.b
    have hcond : B % 2 = 1 ∨ m < 0 ∨ 100000 < m := by
      have h2 := HNZ.out
      rw [HF.out, if_neg (fun x => x h1)] at h2
      by_cases h3 : B % 2 = 1 ∨ m < 0 ∨ 100000 < m
      · exact h3
      · rw [if_neg h3] at h2; exact absurd rfl h2
    have HV : Hid (ev = 1) := Lib.hid (by rw [HF.out, if_neg (fun x => x h1), if_pos hcond])
    have f1 := HU.out.cell 1
    unfold rulP at f1
    dsimp only [List.getElem?_cons_succ, List.getElem?_cons_zero] at f1
    subst hBn
    have hand := and1 hBl
    rcases (show Bn % 2 = 1 ∨ (Bn % 2 = 0 ∧ m < 0) ∨ (Bn % 2 = 0 ∧ ¬ m < 0 ∧ 100000 < m) by omega) with h | ⟨h, h2⟩ | ⟨h, h2, h3⟩
    all_goals
      rw [h] at hand
      clear hcond h h1 hBl
      go_wp2_with (refine Ops.wpList_store_arr rfl 26 _ _ rfl rb rfl 26 _ noPat rfl HR.out rfl infoPat noPat_one ?_; intro w5 hrow5 hon5)
      exact bodyPost_ret (results_pat4 (t := 6) (u := 7) (v := 8) (z := 9) (e := .int .i64 0) (f := .int .i64 0) (g := errV 1) rfl _ _ hrow5 rfl rfl rfl rfl rfl ) rfl ⟨by rw [HV.out]; rfl, HB.out.trans (hon5.below HRB.out.1)⟩
  · have HV : Hid (ev = e1) := Lib.hid (by rw [HF.out]; exact if_pos h1)
    have HVE := Lib.hid (errV_some h1)
    rw [errV_some h1]
    clear h1
    go_wp2_with (refine Ops.wpList_store_arr rfl 26 _ _ rfl rb rfl 26 _ noPat rfl HR.out rfl infoPat noPat_one ?_; intro w5 hrow5 hon5)
    exact bodyPost_ret (results_pat4 (t := 6) (u := 7) (v := 8) (z := 9) (e := .int .i64 0) (f := .int .i64 0) (g := .iface 51 (.int .i64 e1)) rfl _ _ hrow5 rfl rfl rfl rfl rfl ) rfl ⟨by rw [HV.out, HVE.out]; rfl, HB.out.trans (hon5.below HRB.out.1)⟩
end Pn
end Go.Proofs.YtdckcejkliggfaaDoor
