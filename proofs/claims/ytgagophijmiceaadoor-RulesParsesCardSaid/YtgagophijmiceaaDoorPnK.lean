/- WALK: rules.Check of any rule; plane.check, plane.Torus, pattern.Turn. -/
import Derived.Test.YtgagophijmiceaaDoorPnR
import Derived.Test.YtgagophijmiceaaDoorPnR
namespace Go.Proofs.YtgagophijmiceaaDoor
set_option linter.unusedSimpArgs false
set_option linter.unusedVariables false
open Go.RowKit
namespace Pn
open Tld Mem Bl

theorem pfault_zero {W H : Int} {zs : List Int} (h : pfault W H zs = 0) : ∃ W' H' : Nat, W = W' ∧ H = H' ∧ W' ≤ 100 ∧ H' ≤ 100 ∧ zs.length = W' * H' ∧ zs = flat W' H' (cel zs W') ∧ ∀ x y, cel zs W' x y < 2 := by
  unfold pfault at h
  by_cases h1 : okSides W H
  · rw [if_neg (fun x => x h1)] at h
    unfold okSides at h1
    by_cases h2 : (zs.length : Int) = W * H
    · rw [if_neg (fun x => x h2)] at h
      by_cases h3 : zs.any cbad = true
      · rw [if_pos h3] at h; cases h
      · obtain ⟨W', rfl⟩ := Int.eq_ofNat_of_zero_le (show 0 ≤ W by omega)
        obtain ⟨H', rfl⟩ := Int.eq_ofNat_of_zero_le (show 0 ≤ H by omega)
        have hl : zs.length = W' * H' := by exact_mod_cast h2
        have h01 : ∀ z ∈ zs, z = 0 ∨ z = 1 := fun z hz => by
          have h4 : cbad z = false := by
            rw [Bool.not_eq_true, List.any_eq_false] at h3
            exact Bool.eq_false_iff.2 (h3 z hz)
          unfold cbad at h4
          simp at h4
          omega
        exact ⟨W', H', rfl, rfl, by omega, by omega, hl, (flat_cel hl h01).symm, fun x y => cel_lt h01 x y⟩
    · rw [if_pos h2] at h; cases h
  · rw [if_pos h1] at h; cases h
/-- What is wrong with a pattern and a turn. -/
def tfl (W H : Int) (zs : List Int) (k : Int) : Int := if pfault W H zs ≠ 0 then pfault W H zs else if k < 0 ∨ 7 < k then 1 else 0
set_option maxHeartbeats 8000000 in
set_option maxRecDepth 1000000 in
theorem Turn_bad (W H : Int) (a : Option Addr) (n c : Nat) (zs : List Int) (k : Int) (w : World) (hZ : Ints.Is w a n zs) (hf : tfl W H zs k ≠ 0) :
    Calls Tryd.prog 22 #[.agg #[.int .i64 W, .int .i64 H, .slice a n c], .int .i64 k] w fun e w' => e = .returned (.tuple #[.agg #[.int .i64 0, .int .i64 0, .slice none 0 0], errV (tfl W H zs k)]) ∧ Below w.heap.size w w' := by
  have HK := Lib.hid (fun w2 (h : Below w.heap.size w w2) => pcheck_any W H a n c zs w2 hZ.len (by have := hZ.le; unfold maxLen at this; omega) (hZ.keep h).cells)
  obtain ⟨e1, he1⟩ : ∃ e1, e1 = pfault W H zs := ⟨_, rfl⟩
  obtain ⟨ev, hev⟩ : ∃ ev, ev = tfl W H zs k := ⟨_, rfl⟩
  have HF : Hid (ev = if e1 ≠ 0 then e1 else if k < 0 ∨ 7 < k then 1 else 0) := Lib.hid (by rw [hev, he1]; rfl)
  rw [← he1] at HK
  rw [← hev] at hf ⊢
  have HNZ := Lib.hid hf
  unfold pat at HK
  clear hZ he1 hev hf
  go_enter Tryd.func22, Tryd.ntmps22
  go_upto_region 1 with fail
  obtain ⟨hr2, hr3, hb2⟩ := two_new w 35 35 (boxP W H a n c) noPat
  have HP : Hid (Row ((w.alloc (.cells #[.int .i64 W, .int .i64 H, .slice a n c] 35)).alloc (.cells #[.int .i64 0, .int .i64 0, .slice none 0 0] 35)) w.heap.size 35 (boxP W H a n c)) := hr2
  have HR : Hid (Row ((w.alloc (.cells #[.int .i64 W, .int .i64 H, .slice a n c] 35)).alloc (.cells #[.int .i64 0, .int .i64 0, .slice none 0 0] 35)) (w.heap.size + 1) 35 noPat) := hr3
  have HB : Hid (Below w.heap.size w ((w.alloc (.cells #[.int .i64 W, .int .i64 H, .slice a n c] 35)).alloc (.cells #[.int .i64 0, .int .i64 0, .slice none 0 0] 35))) := hb2
  clear hr2 hr3 hb2
  generalize (w.alloc (.cells #[.int .i64 W, .int .i64 H, .slice a n c] 35)).alloc (.cells #[.int .i64 0, .int .i64 0, .slice none 0 0] 35) = w1 at *
  obtain ⟨pb, hpb⟩ : ∃ pb, pb = w.heap.size := ⟨_, rfl⟩
  rw [← hpb] at HP HR ⊢
  obtain ⟨rb, hrb⟩ : ∃ rb, rb = pb + 1 := ⟨_, rfl⟩
  rw [← hrb] at HR ⊢
  have HRB : Hid (w.heap.size ≤ rb) := Lib.hid (by omega)
  clear hpb hrb
  have l6 := row_range HP.out
  go_wp2_with (refine wpList_load_mid rfl 35 _ rfl pb 0 rfl _ _ l6 Tryd.underlying35 rfl infoPat ?_)
  refine (HK.out _ HB.out).mono ?_
  rintro e2 w2 ⟨rfl, hb2⟩
  have HP := Lib.hid (HP.out.keep hb2 HP.out.lt)
  have HR := Lib.hid (HR.out.keep hb2 HR.out.lt)
  have HB := Lib.hid (HB.out.trans (hb2.mono HB.out.size))
  clear l6 hb2
  by_cases h1 : e1 = 0
  · rw [errV_zero h1]
    have hf := HNZ.out
    rw [HF.out] at hf
    have HV : Hid (ev = 1) := Lib.hid (by
      rw [HF.out]
      rw [if_neg (fun x => x h1)] at hf ⊢
      by_cases h2 : k < 0 ∨ 7 < k
      · rw [if_pos h2]
      · rw [if_neg h2] at hf; exact absurd rfl hf)
    have hk : k < 0 ∨ (¬ k < 0 ∧ 7 < k) := by
      rw [if_neg (fun x => x h1)] at hf
      by_cases h2 : k < 0 ∨ 7 < k
      · omega
      · rw [if_neg h2] at hf; exact absurd rfl hf
    clear hf h1
    rcases hk with h2 | ⟨h2, h3⟩
    · go_wp2_with (refine Ops.wpList_store_arr rfl 35 _ _ rfl rb rfl 35 _ noPat rfl HR.out rfl infoPat noPat_one ?_; intro w5 hrow5 hon5)
      exact bodyPost_ret (results_pat (t := 4) (u := 5) (e := errV 1) rfl _ _ hrow5 rfl rfl rfl) rfl ⟨by rw [HV.out]; rfl, HB.out.trans (hon5.below HRB.out)⟩
    · go_wp2_with (refine Ops.wpList_store_arr rfl 35 _ _ rfl rb rfl 35 _ noPat rfl HR.out rfl infoPat noPat_one ?_; intro w5 hrow5 hon5)
      exact bodyPost_ret (results_pat (t := 4) (u := 5) (e := errV 1) rfl _ _ hrow5 rfl rfl rfl) rfl ⟨by rw [HV.out]; rfl, HB.out.trans (hon5.below HRB.out)⟩
  · have HV : Hid (ev = e1) := Lib.hid (by rw [HF.out]; exact if_pos h1)
    have HVE := Lib.hid (errV_some h1)
    rw [errV_some h1]
    clear h1
    go_wp2_with (refine Ops.wpList_store_arr rfl 35 _ _ rfl rb rfl 35 _ noPat rfl HR.out rfl infoPat noPat_one ?_; intro w5 hrow5 hon5)
    exact bodyPost_ret (results_pat (t := 4) (u := 5) (e := .iface 59 (.int .i64 e1)) rfl _ _ hrow5 rfl rfl rfl) rfl ⟨by rw [HV.out, HVE.out]; rfl, HB.out.trans (hon5.below HRB.out)⟩
set_option maxHeartbeats 8000000 in
set_option maxRecDepth 1000000 in
theorem Turn_ok (W H k : Nat) (a : Option Addr) (n c : Nat) (f : Nat → Nat → Nat) (w : World) (hZ : Ints.Is w a n (flat W H f)) (hn : n = W * H) (hW : W ≤ 200) (hH : H ≤ 200) (hk : k < 8) (hp : pfault W H (flat W H f) = 0) :
    Calls Tryd.prog 22 #[.agg #[.int .i64 W, .int .i64 H, .slice a n c], .int .i64 k] w fun e w' => (∃ a' c', e = .returned (.tuple #[.agg #[.int .i64 (qW W H (k % 4) : Nat), .int .i64 (qH W H (k % 4) : Nat), .slice a' n c'], .nilIface]) ∧ n ≤ c' ∧ c' ≤ maxLen ∧ Ints.Is w' a' n (flat (qW W H (k % 4)) (qH W H (k % 4)) (tF W H f k)) ∧ ∀ b o, a' = some ⟨b, o, none⟩ → w.heap.size ≤ b) ∧ Below w.heap.size w w' := by
  have HK := Lib.hid (fun w2 (h : Below w.heap.size w w2) => pcheck_any W H a n c (flat W H f) w2 (by rw [flat_len, hn]) (by have := hZ.le; unfold maxLen at this; omega) (hZ.keep h).cells)
  rw [hp, errV_zero rfl] at HK
  have HT := Lib.hid (fun w2 (h : Below w.heap.size w w2) => turned_any W H k a n c f w2 (hZ.keep h) hn hW hH hk)
  have hk1 : ¬ (k : Int) < 0 := by omega
  have hk2 : ¬ (7 : Int) < (k : Int) := by omega
  clear hZ hn hW hH hp hk
  unfold pat at HT HK
  go_enter Tryd.func22, Tryd.ntmps22
  go_upto_region 1 with fail
  obtain ⟨hr2, hr3, hb2⟩ := two_new w 35 35 (boxP W H a n c) noPat
  have HP : Hid (Row ((w.alloc (.cells #[.int .i64 W, .int .i64 H, .slice a n c] 35)).alloc (.cells #[.int .i64 0, .int .i64 0, .slice none 0 0] 35)) w.heap.size 35 (boxP W H a n c)) := hr2
  have HR : Hid (Row ((w.alloc (.cells #[.int .i64 W, .int .i64 H, .slice a n c] 35)).alloc (.cells #[.int .i64 0, .int .i64 0, .slice none 0 0] 35)) (w.heap.size + 1) 35 noPat) := hr3
  have HB : Hid (Below w.heap.size w ((w.alloc (.cells #[.int .i64 W, .int .i64 H, .slice a n c] 35)).alloc (.cells #[.int .i64 0, .int .i64 0, .slice none 0 0] 35))) := hb2
  clear hr2 hr3 hb2
  generalize (w.alloc (.cells #[.int .i64 W, .int .i64 H, .slice a n c] 35)).alloc (.cells #[.int .i64 0, .int .i64 0, .slice none 0 0] 35) = w1 at *
  obtain ⟨pb, hpb⟩ : ∃ pb, pb = w.heap.size := ⟨_, rfl⟩
  rw [← hpb] at HP HR ⊢
  obtain ⟨rb, hrb⟩ : ∃ rb, rb = pb + 1 := ⟨_, rfl⟩
  rw [← hrb] at HR ⊢
  have HRB : Hid (w.heap.size ≤ rb) := Lib.hid (by omega)
  clear hpb hrb
  have l6 := row_range HP.out
  go_wp2_with (refine wpList_load_mid rfl 35 _ rfl pb 0 rfl _ _ l6 Tryd.underlying35 rfl infoPat ?_)
  refine (HK.out _ HB.out).mono ?_
  rintro e2 w2 ⟨rfl, hb2⟩
  have HP := Lib.hid (HP.out.keep hb2 HP.out.lt)
  have HR := Lib.hid (HR.out.keep hb2 HR.out.lt)
  have HB := Lib.hid (HB.out.trans (hb2.mono HB.out.size))
  clear l6 hb2
  have l6 := row_range HP.out
  go_wp2_with (refine wpList_load_mid rfl 35 _ rfl pb 0 rfl _ _ l6 Tryd.underlying35 rfl infoPat ?_)
  refine (HT.out _ HB.out).mono ?_
  rintro e3 w3 ⟨⟨a', c', rfl, hnc, hcm, hi, hab⟩, hb3⟩
  have hrl := HR.out.lt
  have HR := Lib.hid (HR.out.keep hb3 hrl)
  have hsz := HB.out.size
  have HB := Lib.hid (HB.out.trans (hb3.mono HB.out.size))
  have HAB : Hid (∀ b o, a' = some ⟨b, o, none⟩ → w.heap.size ≤ b ∧ b ≠ rb) := Lib.hid (fun b o e => by have := hab b o e; omega)
  have HI := Lib.hid hi
  have HNC : Hid (n ≤ c' ∧ c' ≤ maxLen) := Lib.hid ⟨hnc, hcm⟩
  clear l6 hb3 hi hab hrl hsz HK HT HP hnc hcm
  go_wp2_with (refine Ops.wpList_store_arr rfl 35 _ _ rfl rb rfl 35 _ (boxP (qW W H (k % 4) : Nat) (qH W H (k % 4) : Nat) a' n c') rfl HR.out rfl infoPat (boxP_one _ _ _ _ _) ?_; intro w5 hrow5 hon5)
  exact bodyPost_ret (results_pat (t := 4) (u := 5) (e := .nilIface) rfl _ _ hrow5 rfl rfl rfl) rfl ⟨⟨a', c', rfl, HNC.out.1, HNC.out.2, is_other HI.out hon5 (fun b o e => (HAB.out b o e).2), fun b o e => (HAB.out b o e).1⟩, HB.out.trans (hon5.below HRB.out)⟩
end Pn
end Go.Proofs.YtgagophijmiceaaDoor
