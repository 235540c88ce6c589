/- WALK: gas.Run, gas.Turned, gas.Push where something is wrong; edensame.Gases of two that are the same. -/
import Derived.Test.YtekoldebcihdoaaDoorGsV
namespace Go.Proofs.YtekoldebcihdoaaDoor
set_option linter.unusedSimpArgs false
set_option linter.unusedVariables false
open Go.RowKit
namespace Gs
open Tld Mem
set_option maxHeartbeats 4000000 in
set_option maxRecDepth 1000000 in
theorem turned_bad (K W H : Int) (a : Option Addr) (n c : Nat) (zs : List Int) (w : World) (hZ : Ints.Is w a n zs) (hf : gfault K W H zs ≠ 0) :
    Calls Tryd.prog 12 #[gas K W H a n c] w fun e w' => e = .returned (.tuple #[gas 0 0 0 none 0 0, errV (gfault K W H zs)]) ∧ Below w.heap.size w w' := by
  have HK := Lib.hid (fun w2 (h : Below w.heap.size w w2) => check_any K W H a n c zs w2 (hZ.keep h))
  rw [errV_some hf] at HK ⊢
  generalize gfault K W H zs = e at *
  clear hZ hf
  unfold gas at HK ⊢
  go_enter Tryd.func12, Tryd.ntmps12
  go_upto_region 1 with fail
  obtain ⟨hr5, hr8, hb2⟩ := two_new w 24 24 (boxG K W H a n c) noGas
  have HR5 : Hid (Row ((w.alloc (.cells #[.int .i64 K, .int .i64 W, .int .i64 H, .slice a n c] 24)).alloc (.cells #[.int .i64 0, .int .i64 0, .int .i64 0, .slice none 0 0] 24)) w.heap.size 24 (boxG K W H a n c)) := hr5
  have HR8 : Hid (Row ((w.alloc (.cells #[.int .i64 K, .int .i64 W, .int .i64 H, .slice a n c] 24)).alloc (.cells #[.int .i64 0, .int .i64 0, .int .i64 0, .slice none 0 0] 24)) (w.heap.size + 1) 24 noGas) := hr8
  have HB : Hid (Below w.heap.size w ((w.alloc (.cells #[.int .i64 K, .int .i64 W, .int .i64 H, .slice a n c] 24)).alloc (.cells #[.int .i64 0, .int .i64 0, .int .i64 0, .slice none 0 0] 24))) := hb2
  clear hr5 hr8 hb2
  generalize (w.alloc (.cells #[.int .i64 K, .int .i64 W, .int .i64 H, .slice a n c] 24)).alloc (.cells #[.int .i64 0, .int .i64 0, .int .i64 0, .slice none 0 0] 24) = w1 at *
  obtain ⟨gb, hgb⟩ : ∃ gb, gb = w.heap.size := ⟨_, rfl⟩
  rw [← hgb] at HR5 HR8 ⊢
  obtain ⟨rb, hrb⟩ : ∃ rb, rb = gb + 1 := ⟨_, rfl⟩
  rw [← hrb] at HR8 ⊢
  have HGB := Lib.hid hgb
  have HRB := Lib.hid hrb
  clear hgb hrb
  have l5 := row_range HR5.out
  go_wp2_with (refine wpList_load_mid rfl 24 _ rfl gb 0 rfl _ _ l5 Tryd.underlying24 rfl infoGas ?_)
  refine (HK.out _ HB.out).mono ?_
  rintro e2 w2 ⟨rfl, hb2⟩
  have HR5 := Lib.hid (HR5.out.keep hb2 HR5.out.lt)
  have HR8 := Lib.hid (HR8.out.keep hb2 HR8.out.lt)
  have HB := Lib.hid (HB.out.trans (hb2.mono HB.out.size))
  clear hb2 l5 HK
  go_wp2_with (refine Ops.wpList_store_arr rfl 24 _ _ rfl rb rfl 24 _ _ rfl HR8.out rfl infoGas noGas_one ?_; intro w5 hrow5 hon5)
  refine bodyPost_ret (results_gas (t := 2) (u := 3) (e := .iface 43 (.int .i64 e)) rfl _ _ hrow5 rfl rfl rfl) rfl ⟨rfl, HB.out.trans (hon5.below (by have := HGB.out; have := HRB.out; omega))⟩
set_option maxHeartbeats 2000000 in
theorem push_bad (K W H : Int) (a : Option Addr) (n c : Nat) (zs : List Int) (w : World) (hZ : Ints.Is w a n zs) (hf : gfault K W H zs ≠ 0) :
    Calls Tryd.prog 11 #[gas K W H a n c] w fun e w' => e = .returned (.tuple #[.int .i64 0, .int .i64 0, errV (gfault K W H zs)]) ∧ Below w.heap.size w w' := by
  have HK := Lib.hid (fun w2 (h : Below w.heap.size w w2) => check_any K W H a n c zs w2 (hZ.keep h))
  rw [errV_some hf] at HK ⊢
  generalize gfault K W H zs = e at *
  clear hZ hf
  unfold gas at HK ⊢
  go_enter Tryd.func11, Tryd.ntmps11
  go_upto_region 1 with fail
  have hr0 : Row (w.alloc (.cells #[.int .i64 K, .int .i64 W, .int .i64 H, .slice a n c] 24)) w.heap.size 24 (boxG K W H a n c) := row_alloc w _ _
  have hb0 : Below w.heap.size w (w.alloc (.cells #[.int .i64 K, .int .i64 W, .int .i64 H, .slice a n c] 24)) := (Below.refl _ _).alloc (Nat.le_refl _) _
  have HB := Lib.hid hb0
  generalize w.alloc (.cells #[.int .i64 K, .int .i64 W, .int .i64 H, .slice a n c] 24) = w1 at *
  have l5 := row_range hr0
  clear hb0
  go_wp2_with (refine wpList_load_mid rfl 24 _ rfl w.heap.size 0 rfl _ _ l5 Tryd.underlying24 rfl infoGas ?_)
  refine (HK.out _ HB.out).mono ?_
  rintro e2 w2 ⟨rfl, hb2⟩
  have HB := Lib.hid (HB.out.trans (hb2.mono HB.out.size))
  clear hb2 l5 hr0 HK
  go_wp2_with fail
  go_ret3
  exact ⟨rfl, HB.out⟩
set_option maxHeartbeats 8000000 in
set_option maxRecDepth 1000000 in
theorem run_bad (K W H : Int) (a : Option Addr) (n c : Nat) (zs : List Int) (ca : Option Addr) (cn cc : Nat) (cs : List Int) (m : Int) (w : World) (hZ : Ints.Is w a n zs) (hC : Ints.Is w ca cn cs) (hf : rfault K W H zs cs m ≠ 0) :
    Calls Tryd.prog 7 #[gas K W H a n c, .slice ca cn cc, .int .i64 m] w fun e w' => e = .returned (.tuple #[gas 0 0 0 none 0 0, errV (rfault K W H zs cs m)]) ∧ Below w.heap.size w w' := by
  have HK := Lib.hid (fun w2 (h : Below w.heap.size w w2) => check_any K W H a n c zs w2 (hZ.keep h))
  have HCC := Lib.hid (fun w2 (h : Below w.heap.size w w2) => ccontains_any ca cn cc cs w2 (hC.keep h))
  have hcl := hC.len
  clear hZ hC
  by_cases hg : gfault K W H zs = 0
  · --{g0
    rw [hg, errV_zero rfl] at HK
    have hf2 : rfault K W H zs cs m = if m < 0 ∨ 100000 < m ∨ cs.any coinbad = true then 1 else if K = 6 ∧ cs.length = 0 then 3 else 0 := by
      unfold rfault
      rw [if_neg (fun h => h hg)]
    unfold gas at HK ⊢
    generalize cs.any coinbad = cb at *
    by_cases h1 : m < 0 ∨ 100000 < m ∨ cb = true
    · rw [hf2, if_pos h1, errV_some (by decide)]
      clear hf hf2 hg hcl
      by_cases ha : m < 0
      · go_enter Tryd.func7, Tryd.ntmps7
        go_upto_region 1 with fail
        obtain ⟨hr5, hr8, hb2⟩ := two_new w 24 24 (boxG K W H a n c) noGas
        have HR5 : Hid (Row ((w.alloc (.cells #[.int .i64 K, .int .i64 W, .int .i64 H, .slice a n c] 24)).alloc (.cells #[.int .i64 0, .int .i64 0, .int .i64 0, .slice none 0 0] 24)) w.heap.size 24 (boxG K W H a n c)) := hr5
        have HR8 : Hid (Row ((w.alloc (.cells #[.int .i64 K, .int .i64 W, .int .i64 H, .slice a n c] 24)).alloc (.cells #[.int .i64 0, .int .i64 0, .int .i64 0, .slice none 0 0] 24)) (w.heap.size + 1) 24 noGas) := hr8
        have HB : Hid (Below w.heap.size w ((w.alloc (.cells #[.int .i64 K, .int .i64 W, .int .i64 H, .slice a n c] 24)).alloc (.cells #[.int .i64 0, .int .i64 0, .int .i64 0, .slice none 0 0] 24))) := hb2
        clear hr5 hr8 hb2
        generalize (w.alloc (.cells #[.int .i64 K, .int .i64 W, .int .i64 H, .slice a n c] 24)).alloc (.cells #[.int .i64 0, .int .i64 0, .int .i64 0, .slice none 0 0] 24) = w1 at *
        obtain ⟨gb, hgb⟩ : ∃ gb, gb = w.heap.size := ⟨_, rfl⟩
        rw [← hgb] at HR5 HR8 ⊢
        obtain ⟨rb, hrb⟩ : ∃ rb, rb = gb + 1 := ⟨_, rfl⟩
        rw [← hrb] at HR8 ⊢
        have HGB := Lib.hid hgb
        have HRB := Lib.hid hrb
        clear hgb hrb
        have l5 := row_range HR5.out
        go_wp2_with (refine wpList_load_mid rfl 24 _ rfl gb 0 rfl _ _ l5 Tryd.underlying24 rfl infoGas ?_)
        refine (HK.out _ HB.out).mono ?_
        rintro e2 w2 ⟨rfl, hb2⟩
        have HR5 := Lib.hid (HR5.out.keep hb2 HR5.out.lt)
        have HR8 := Lib.hid (HR8.out.keep hb2 HR8.out.lt)
        have HB := Lib.hid (HB.out.trans (hb2.mono HB.out.size))
        clear hb2 l5 HK
        go_wp2_with (refine Ops.wpList_store_arr rfl 24 _ _ rfl rb rfl 24 _ _ rfl HR8.out rfl infoGas noGas_one ?_; intro w5 hrow5 hon5)
        refine bodyPost_ret (results_gas (t := 6) (u := 7) (e := .iface 43 (.int .i64 1)) rfl _ _ hrow5 rfl rfl rfl) rfl ⟨rfl, HB.out.trans (hon5.below (by have := HGB.out; have := HRB.out; omega))⟩
      · by_cases hb : 100000 < m
        · go_enter Tryd.func7, Tryd.ntmps7
          go_upto_region 1 with fail
          obtain ⟨hr5, hr8, hb2⟩ := two_new w 24 24 (boxG K W H a n c) noGas
          have HR5 : Hid (Row ((w.alloc (.cells #[.int .i64 K, .int .i64 W, .int .i64 H, .slice a n c] 24)).alloc (.cells #[.int .i64 0, .int .i64 0, .int .i64 0, .slice none 0 0] 24)) w.heap.size 24 (boxG K W H a n c)) := hr5
          have HR8 : Hid (Row ((w.alloc (.cells #[.int .i64 K, .int .i64 W, .int .i64 H, .slice a n c] 24)).alloc (.cells #[.int .i64 0, .int .i64 0, .int .i64 0, .slice none 0 0] 24)) (w.heap.size + 1) 24 noGas) := hr8
          have HB : Hid (Below w.heap.size w ((w.alloc (.cells #[.int .i64 K, .int .i64 W, .int .i64 H, .slice a n c] 24)).alloc (.cells #[.int .i64 0, .int .i64 0, .int .i64 0, .slice none 0 0] 24))) := hb2
          clear hr5 hr8 hb2
          generalize (w.alloc (.cells #[.int .i64 K, .int .i64 W, .int .i64 H, .slice a n c] 24)).alloc (.cells #[.int .i64 0, .int .i64 0, .int .i64 0, .slice none 0 0] 24) = w1 at *
          obtain ⟨gb, hgb⟩ : ∃ gb, gb = w.heap.size := ⟨_, rfl⟩
          rw [← hgb] at HR5 HR8 ⊢
          obtain ⟨rb, hrb⟩ : ∃ rb, rb = gb + 1 := ⟨_, rfl⟩
          rw [← hrb] at HR8 ⊢
          have HGB := Lib.hid hgb
          have HRB := Lib.hid hrb
          clear hgb hrb
          have l5 := row_range HR5.out
          go_wp2_with (refine wpList_load_mid rfl 24 _ rfl gb 0 rfl _ _ l5 Tryd.underlying24 rfl infoGas ?_)
          refine (HK.out _ HB.out).mono ?_
          rintro e2 w2 ⟨rfl, hb2⟩
          have HR5 := Lib.hid (HR5.out.keep hb2 HR5.out.lt)
          have HR8 := Lib.hid (HR8.out.keep hb2 HR8.out.lt)
          have HB := Lib.hid (HB.out.trans (hb2.mono HB.out.size))
          clear hb2 l5 HK
          go_wp2_with (refine Ops.wpList_store_arr rfl 24 _ _ rfl rb rfl 24 _ _ rfl HR8.out rfl infoGas noGas_one ?_; intro w5 hrow5 hon5)
          refine bodyPost_ret (results_gas (t := 6) (u := 7) (e := .iface 43 (.int .i64 1)) rfl _ _ hrow5 rfl rfl rfl) rfl ⟨rfl, HB.out.trans (hon5.below (by have := HGB.out; have := HRB.out; omega))⟩
        · have hcb : cb = true := by
            rcases h1 with h | h | h
            · exact absurd h ha
            · exact absurd h hb
            · exact h
          rw [hcb] at HCC
          clear h1 hcb
          go_enter Tryd.func7, Tryd.ntmps7
          go_upto_region 1 with fail
          obtain ⟨hr5, hr8, hb2⟩ := two_new w 24 24 (boxG K W H a n c) noGas
          have HR5 : Hid (Row ((w.alloc (.cells #[.int .i64 K, .int .i64 W, .int .i64 H, .slice a n c] 24)).alloc (.cells #[.int .i64 0, .int .i64 0, .int .i64 0, .slice none 0 0] 24)) w.heap.size 24 (boxG K W H a n c)) := hr5
          have HR8 : Hid (Row ((w.alloc (.cells #[.int .i64 K, .int .i64 W, .int .i64 H, .slice a n c] 24)).alloc (.cells #[.int .i64 0, .int .i64 0, .int .i64 0, .slice none 0 0] 24)) (w.heap.size + 1) 24 noGas) := hr8
          have HB : Hid (Below w.heap.size w ((w.alloc (.cells #[.int .i64 K, .int .i64 W, .int .i64 H, .slice a n c] 24)).alloc (.cells #[.int .i64 0, .int .i64 0, .int .i64 0, .slice none 0 0] 24))) := hb2
          clear hr5 hr8 hb2
          generalize (w.alloc (.cells #[.int .i64 K, .int .i64 W, .int .i64 H, .slice a n c] 24)).alloc (.cells #[.int .i64 0, .int .i64 0, .int .i64 0, .slice none 0 0] 24) = w1 at *
          obtain ⟨gb, hgb⟩ : ∃ gb, gb = w.heap.size := ⟨_, rfl⟩
          rw [← hgb] at HR5 HR8 ⊢
          obtain ⟨rb, hrb⟩ : ∃ rb, rb = gb + 1 := ⟨_, rfl⟩
          rw [← hrb] at HR8 ⊢
          have HGB := Lib.hid hgb
          have HRB := Lib.hid hrb
          clear hgb hrb
          have l5 := row_range HR5.out
          go_wp2_with (refine wpList_load_mid rfl 24 _ rfl gb 0 rfl _ _ l5 Tryd.underlying24 rfl infoGas ?_)
          refine (HK.out _ HB.out).mono ?_
          rintro e2 w2 ⟨rfl, hb2⟩
          have HR5 := Lib.hid (HR5.out.keep hb2 HR5.out.lt)
          have HR8 := Lib.hid (HR8.out.keep hb2 HR8.out.lt)
          have HB := Lib.hid (HB.out.trans (hb2.mono HB.out.size))
          clear hb2 l5 HK
          go_wp2_with fail
          refine (HCC.out _ HB.out).mono ?_
          rintro e3 w3 ⟨rfl, hw3⟩
          rw [hw3]
          clear hw3 HCC
          go_wp2_with (refine Ops.wpList_store_arr rfl 24 _ _ rfl rb rfl 24 _ _ rfl HR8.out rfl infoGas noGas_one ?_; intro w5 hrow5 hon5)
          refine bodyPost_ret (results_gas (t := 6) (u := 7) (e := .iface 43 (.int .i64 1)) rfl _ _ hrow5 rfl rfl rfl) rfl ⟨rfl, HB.out.trans (hon5.below (by have := HGB.out; have := HRB.out; omega))⟩
    · have hcb : cb = false := by
        cases cb
        · rfl
        · exact absurd (.inr (.inr rfl)) h1
      have h6 : K = 6 ∧ cn = 0 := by
        rw [hf2, if_neg h1, hcl] at hf
        exact Decidable.of_not_not fun h => hf (if_neg h)
      rw [hf2, if_neg h1, if_pos (by rw [hcl]; exact h6), errV_some (by decide)]
      rw [hcb] at HCC
      have ha : ¬ m < 0 := fun h => h1 (.inl h)
      have hb : ¬ 100000 < m := fun h => h1 (.inr (.inl h))
      obtain ⟨h6a, h6b⟩ := h6
      clear h1 hf hf2 hg hcl hcb
      subst h6a
      subst h6b
      go_enter Tryd.func7, Tryd.ntmps7
      go_upto_region 1 with fail
      obtain ⟨hr5, hr8, hb2⟩ := two_new w 24 24 (boxG 6 W H a n c) noGas
      have HR5 : Hid (Row ((w.alloc (.cells #[.int .i64 6, .int .i64 W, .int .i64 H, .slice a n c] 24)).alloc (.cells #[.int .i64 0, .int .i64 0, .int .i64 0, .slice none 0 0] 24)) w.heap.size 24 (boxG 6 W H a n c)) := hr5
      have HR8 : Hid (Row ((w.alloc (.cells #[.int .i64 6, .int .i64 W, .int .i64 H, .slice a n c] 24)).alloc (.cells #[.int .i64 0, .int .i64 0, .int .i64 0, .slice none 0 0] 24)) (w.heap.size + 1) 24 noGas) := hr8
      have HB : Hid (Below w.heap.size w ((w.alloc (.cells #[.int .i64 6, .int .i64 W, .int .i64 H, .slice a n c] 24)).alloc (.cells #[.int .i64 0, .int .i64 0, .int .i64 0, .slice none 0 0] 24))) := hb2
      clear hr5 hr8 hb2
      generalize (w.alloc (.cells #[.int .i64 6, .int .i64 W, .int .i64 H, .slice a n c] 24)).alloc (.cells #[.int .i64 0, .int .i64 0, .int .i64 0, .slice none 0 0] 24) = w1 at *
      obtain ⟨gb, hgb⟩ : ∃ gb, gb = w.heap.size := ⟨_, rfl⟩
      rw [← hgb] at HR5 HR8 ⊢
      obtain ⟨rb, hrb⟩ : ∃ rb, rb = gb + 1 := ⟨_, rfl⟩
      rw [← hrb] at HR8 ⊢
      have HGB := Lib.hid hgb
      have HRB := Lib.hid hrb
      clear hgb hrb
      have l5 := row_range HR5.out
      go_wp2_with (refine wpList_load_mid rfl 24 _ rfl gb 0 rfl _ _ l5 Tryd.underlying24 rfl infoGas ?_)
      refine (HK.out _ HB.out).mono ?_
      rintro e2 w2 ⟨rfl, hb2⟩
      have HR5 := Lib.hid (HR5.out.keep hb2 HR5.out.lt)
      have HR8 := Lib.hid (HR8.out.keep hb2 HR8.out.lt)
      have HB := Lib.hid (HB.out.trans (hb2.mono HB.out.size))
      clear hb2 l5 HK
      have f0 := HR5.out.cell 0
      unfold boxG at f0
      dsimp only [List.getElem?_cons_succ, List.getElem?_cons_zero] at f0
      go_wp2_with fail
      refine (HCC.out _ HB.out).mono ?_
      rintro e3 w3 ⟨rfl, hw3⟩
      rw [hw3]
      clear hw3 HCC
      go_wp2_with (refine Ops.wpList_store_arr rfl 24 _ _ rfl rb rfl 24 _ _ rfl HR8.out rfl infoGas noGas_one ?_; intro w5 hrow5 hon5)
      refine bodyPost_ret (results_gas (t := 6) (u := 7) (e := .iface 43 (.int .i64 3)) rfl _ _ hrow5 rfl rfl rfl) rfl ⟨rfl, HB.out.trans (hon5.below (by have := HGB.out; have := HRB.out; omega))⟩
    --}
  · --{g1
    have hf2 : rfault K W H zs cs m = gfault K W H zs := by
      unfold rfault
      rw [if_pos hg]
    rw [hf2]
    rw [errV_some hg] at HK ⊢
    generalize gfault K W H zs = e at *
    clear hf hf2 hg hcl HCC
    unfold gas at HK ⊢
    go_enter Tryd.func7, Tryd.ntmps7
    go_upto_region 1 with fail
    obtain ⟨hr5, hr8, hb2⟩ := two_new w 24 24 (boxG K W H a n c) noGas
    have HR5 : Hid (Row ((w.alloc (.cells #[.int .i64 K, .int .i64 W, .int .i64 H, .slice a n c] 24)).alloc (.cells #[.int .i64 0, .int .i64 0, .int .i64 0, .slice none 0 0] 24)) w.heap.size 24 (boxG K W H a n c)) := hr5
    have HR8 : Hid (Row ((w.alloc (.cells #[.int .i64 K, .int .i64 W, .int .i64 H, .slice a n c] 24)).alloc (.cells #[.int .i64 0, .int .i64 0, .int .i64 0, .slice none 0 0] 24)) (w.heap.size + 1) 24 noGas) := hr8
    have HB : Hid (Below w.heap.size w ((w.alloc (.cells #[.int .i64 K, .int .i64 W, .int .i64 H, .slice a n c] 24)).alloc (.cells #[.int .i64 0, .int .i64 0, .int .i64 0, .slice none 0 0] 24))) := hb2
    clear hr5 hr8 hb2
    generalize (w.alloc (.cells #[.int .i64 K, .int .i64 W, .int .i64 H, .slice a n c] 24)).alloc (.cells #[.int .i64 0, .int .i64 0, .int .i64 0, .slice none 0 0] 24) = w1 at *
    obtain ⟨gb, hgb⟩ : ∃ gb, gb = w.heap.size := ⟨_, rfl⟩
    rw [← hgb] at HR5 HR8 ⊢
    obtain ⟨rb, hrb⟩ : ∃ rb, rb = gb + 1 := ⟨_, rfl⟩
    rw [← hrb] at HR8 ⊢
    have HGB := Lib.hid hgb
    have HRB := Lib.hid hrb
    clear hgb hrb
    have l5 := row_range HR5.out
    go_wp2_with (refine wpList_load_mid rfl 24 _ rfl gb 0 rfl _ _ l5 Tryd.underlying24 rfl infoGas ?_)
    refine (HK.out _ HB.out).mono ?_
    rintro e2 w2 ⟨rfl, hb2⟩
    have HR5 := Lib.hid (HR5.out.keep hb2 HR5.out.lt)
    have HR8 := Lib.hid (HR8.out.keep hb2 HR8.out.lt)
    have HB := Lib.hid (HB.out.trans (hb2.mono HB.out.size))
    clear hb2 l5 HK
    go_wp2_with (refine Ops.wpList_store_arr rfl 24 _ _ rfl rb rfl 24 _ _ rfl HR8.out rfl infoGas noGas_one ?_; intro w5 hrow5 hon5)
    refine bodyPost_ret (results_gas (t := 6) (u := 7) (e := .iface 43 (.int .i64 e)) rfl _ _ hrow5 rfl rfl rfl) rfl ⟨rfl, HB.out.trans (hon5.below (by have := HGB.out; have := HRB.out; omega))⟩
    --}
set_option maxHeartbeats 4000000 in
set_option maxRecDepth 1000000 in
theorem gases_any (K W H : Int) (a b : Option Addr) (n c d : Nat) (zs : List Int) (w : World) (hA : Ints.Is w a n zs) (hB : Ints.Is w b n zs) :
    Calls Tryd.prog 9 #[gas K W H a n c, gas K W H b n d] w fun e w' => e = .returned (.bool true) ∧ Below w.heap.size w w' := by
  have hle := hA.le
  unfold maxLen at hle
  have HA := Lib.hid (fun w2 (h : Below w.heap.size w w2) => hA.keep h)
  have HBB := Lib.hid (fun w2 (h : Below w.heap.size w w2) => hB.keep h)
  clear hA hB
  unfold gas
  go_enter Tryd.func9, Tryd.ntmps9
  go_upto_region 1 with fail
  obtain ⟨hr5, hr8, hb2⟩ := two_new w 24 24 (boxG K W H a n c) (boxG K W H b n d)
  have HR5 : Hid (Row ((w.alloc (.cells #[.int .i64 K, .int .i64 W, .int .i64 H, .slice a n c] 24)).alloc (.cells #[.int .i64 K, .int .i64 W, .int .i64 H, .slice b n d] 24)) w.heap.size 24 (boxG K W H a n c)) := hr5
  have HR8 : Hid (Row ((w.alloc (.cells #[.int .i64 K, .int .i64 W, .int .i64 H, .slice a n c] 24)).alloc (.cells #[.int .i64 K, .int .i64 W, .int .i64 H, .slice b n d] 24)) (w.heap.size + 1) 24 (boxG K W H b n d)) := hr8
  have HB : Hid (Below w.heap.size w ((w.alloc (.cells #[.int .i64 K, .int .i64 W, .int .i64 H, .slice a n c] 24)).alloc (.cells #[.int .i64 K, .int .i64 W, .int .i64 H, .slice b n d] 24))) := hb2
  clear hr5 hr8 hb2
  generalize (w.alloc (.cells #[.int .i64 K, .int .i64 W, .int .i64 H, .slice a n c] 24)).alloc (.cells #[.int .i64 K, .int .i64 W, .int .i64 H, .slice b n d] 24) = w1 at *
  obtain ⟨gb, hgb⟩ : ∃ gb, gb = w.heap.size := ⟨_, rfl⟩
  rw [← hgb] at HR5 HR8 ⊢
  obtain ⟨rb, hrb⟩ : ∃ rb, rb = gb + 1 := ⟨_, rfl⟩
  rw [← hrb] at HR8 ⊢
  clear hgb hrb
  have f0 := HR5.out.cell 0
  have f1 := HR5.out.cell 1
  have f2 := HR5.out.cell 2
  have f3 := HR5.out.cell 3
  have g0 := HR8.out.cell 0
  have g1 := HR8.out.cell 1
  have g2 := HR8.out.cell 2
  have g3 := HR8.out.cell 3
  unfold boxG at f0 f1 f2 f3 g0 g1 g2 g3
  dsimp only [List.getElem?_cons_succ, List.getElem?_cons_zero] at f0 f1 f2 f3 g0 g1 g2 g3
  go_wp2_with fail
  clear f0 f1 f2 f3 g0 g1 g2 g3
  go_loopw [5] (fun v wr => ∃ i : Nat, i ≤ n ∧ v = .int .i64 (i : Nat) ∧ Row wr gb 24 (boxG K W H a n c) ∧ Row wr rb 24 (boxG K W H b n d) ∧ Below w.heap.size w wr) (fun v _ => n - (RowKit.intOf v).toNat)
  case atStart => exact ⟨0, Nat.zero_le _, rfl, HR5.out, HR8.out, HB.out⟩
  case round =>
    clear HR5 HR8 HB
    obtain ⟨i, hi, rfl, hr5, hr8, hb⟩ := hrel
    have HR5 := Lib.hid hr5
    have HR8 := Lib.hid hr8
    have HB := Lib.hid hb
    have f3 := hr5.cell 3
    have g3 := hr8.cell 3
    unfold boxG at f3 g3
    dsimp only [List.getElem?_cons_succ, List.getElem?_cons_zero] at f3 g3
    clear hb hr5 hr8
    by_cases hlt : i < n
    · obtain ⟨b1, o1, rfl, _, c1⟩ := (HA.out wr HB.out).cells i hlt
      obtain ⟨b2, o2, rfl, _, c2⟩ := (HBB.out wr HB.out).cells i hlt
      dsimp only at c1 c2
      generalize zs.getD i 0 = x at *
      have hi2 : (i : Int) < (n : Int) := by omega
      have HI := Lib.hid hlt
      clear hlt
      go_upto_region 6 with fail
      go_big_quiet (fail)
      go_wp2_with fail
      go_roundw
      case rel => exact ⟨i + 1, HI.out, by go_num, HR5.out.drewN _, HR8.out.drewN _, below_n HB.out _⟩
      case measure => have := HI.out; simp [RowKit.intOf]; omega
    · have hnl : ¬ (i : Int) < (n : Int) := by omega
      go_wp2_with fail
      go_ret
      exact ⟨rfl, HB.out⟩
end Gs
end Go.Proofs.YtekoldebcihdoaaDoor
