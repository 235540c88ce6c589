/- WALK: the reference's faults: edenref4.Table, edenref1.Shape; edenref4.ones, Keeps, quarter, Turns. -/
import Derived.Test.YtmnefdcgknmnjaaDoorBlK
import Derived.BigQuiet
import Derived.Deep.QuietTactic
namespace Go.Proofs.YtmnefdcgknmnjaaDoor
set_option linter.unusedSimpArgs false
set_option linter.unusedVariables false
open Go.RowKit Go.Lib
namespace Bl
open Tld Mem

theorem any_or {zs : List Int} {p : Int → Bool} {n : Nat} (hz : zs.length = n) (h : ∀ k, k < n → p (zs.getD k 0) = false) : zs.any p = false := any_no fun k hk => h k (by omega)
set_option maxHeartbeats 2000000 in
theorem table_any (a : Option Addr) (n c : Nat) (zs : List Int) (w : World) (hT : Ints.Is w a n zs) :
    Calls Tryd.prog 4 #[.slice a n c] w fun e w' => e = .returned (.int .i64 (tfault zs)) ∧ w = w' := by
  have hle := hT.le
  unfold maxLen at hle
  have HZ := Lib.hid hT.cells
  have HL := Lib.hid hT.len
  clear hT
  by_cases h16 : n = 16
  · subst h16
    go_enter Tryd.func4, Tryd.ntmps4
    go_wp2_with fail
    go_loop [3] (fun v => ∃ i : Nat, i ≤ 16 ∧ v = .int .i64 i ∧ (∀ k, k < i → tbad (zs.getD k 0) = false)) (fun v => 16 - (intOf v).toNat)
    case atStart => exact ⟨0, Nat.zero_le _, rfl, fun k hk => absurd hk (Nat.not_lt_zero _)⟩
    case round =>
      obtain ⟨i, hi, rfl, hok⟩ := hrel
      have HOK := Lib.hid hok
      clear hok
      by_cases hlt : i < 16
      · obtain ⟨b, off, rfl, _, hc⟩ := HZ.out i hlt
        dsimp only at hc
        by_cases hb : tbad (zs.getD i 0) = true
        · have HF : Hid (tfault zs = 1) := by
            show tfault zs = 1
            unfold tfault
            rw [if_neg (by simp [HL.out]), if_pos (any_yes (k := i) (by rw [HL.out]; exact hlt) hb)]
          unfold tbad at hb
          have hb' := of_decide_eq_true hb
          clear hb
          generalize zs.getD i 0 = z at *
          rcases hb' with h | h
          · go_wp2_with fail
            go_ret
            exact ⟨congrArg (fun z => Ending.returned (.int .i64 z)) HF.out.symm, rfl⟩
          · go_wp2_with fail
            go_ret
            exact ⟨congrArg (fun z => Ending.returned (.int .i64 z)) HF.out.symm, rfl⟩
        · have hb1 := Bool.eq_false_iff.2 hb
          have HN : Hid (∀ k, k < i + 1 → tbad (zs.getD k 0) = false) := fun k hk => by
            by_cases hki : k = i
            · rw [hki]; exact hb1
            · exact HOK.out k (by omega)
          unfold tbad at hb1
          have hb' := of_decide_eq_false hb1
          clear hb hb1
          generalize zs.getD i 0 = z at *
          have hz1 : ¬ z < 0 := fun h => hb' (.inl h)
          have hz2 : ¬ 15 < z := fun h => hb' (.inr h)
          clear hb'
          go_wp2_with fail
          go_round
          case rel => exact ⟨i + 1, by omega, by go_num, HN.out⟩
          case measure => simp [intOf]; omega
      · have HF : Hid (tfault zs = 0) := by
          show tfault zs = 0
          unfold tfault
          rw [if_neg (by simp [HL.out]), if_neg (by rw [any_or HL.out fun k hk => HOK.out k (by omega)]; simp)]
        go_wp2_with fail
        go_ret
        exact ⟨congrArg (fun z => Ending.returned (.int .i64 z)) HF.out.symm, rfl⟩
  · have HF : Hid (tfault zs = 3) := by
      show tfault zs = 3
      unfold tfault; rw [if_pos (by rw [HL.out]; exact h16)]
    have hno : ((n : Int) != 16) = true := by rw [bne_iff_ne]; omega
    go_enter Tryd.func4, Tryd.ntmps4
    go_wp2
    go_ret
    exact ⟨congrArg (fun z => Ending.returned (.int .i64 z)) HF.out.symm, rfl⟩
set_option maxHeartbeats 4000000 in
theorem shape_any (W H : Int) (a : Option Addr) (n c : Nat) (zs : List Int) (w : World) (hT : Ints.Is w a n zs) :
    Calls Tryd.prog 7 #[.agg #[.int .i64 W, .int .i64 H, .slice a n c]] w fun e w' => e = .returned (.int .i64 (pfault W H zs)) ∧ Below w.heap.size w w' := by
  have hle := hT.le
  unfold maxLen at hle
  obtain ⟨hR, hB⟩ : Row (w.alloc (.cells #[.int .i64 W, .int .i64 H, .slice a n c] 24)) w.heap.size 24 (boxP W H a n c) ∧ Below w.heap.size w (w.alloc (.cells #[.int .i64 W, .int .i64 H, .slice a n c] 24)) := ⟨row_alloc w _ _, (Below.refl _ _).alloc (Nat.le_refl _) _⟩
  have HZ := Lib.hid (hT.cells.keep hB)
  have HL := Lib.hid hT.len
  have HB := Lib.hid hB
  have f0 := hR.cell 0
  have f1 := hR.cell 1
  have f2 := hR.cell 2
  unfold boxP at f0 f1 f2
  dsimp only [List.getElem?_cons_succ, List.getElem?_cons_zero] at f0 f1 f2
  clear hT hR hB
  by_cases hs : okSides W H
  · obtain ⟨h1, h2, h3, h4⟩ := hs
    have hp0 : 0 ≤ W * H := Int.mul_nonneg h1 h3
    have hp1 : W * H ≤ 100 * 100 := Int.mul_le_mul h2 h4 h3 (by omega)
    by_cases hn : (n : Int) = W * H
    · have HP : Hid (pfault W H zs = if zs.any cbad = true then 1 else 0) := by
        show pfault W H zs = _
        unfold pfault; rw [if_neg (by simp; exact ⟨h1, h2, h3, h4⟩), if_neg (by simp [HL.out, hn])]
      have hwr : IntKind.i64.wrap (W * H) = (n : Int) := by rw [IntKind.wrap_i64]; omega
      have HNL := Lib.hid hn
      clear hn hp0 hp1
      go_enter Tryd.func7, Tryd.ntmps7
      go_wp2_with fail
      generalize w.alloc (.cells #[.int .i64 W, .int .i64 H, .slice a n c] 24) = w1 at *
      go_loop [3] (fun v => ∃ i : Nat, i ≤ n ∧ v = .int .i64 i ∧ (∀ k, k < i → cbad (zs.getD k 0) = false)) (fun v => n - (intOf v).toNat)
      case atStart => exact ⟨0, Nat.zero_le _, rfl, fun k hk => absurd hk (Nat.not_lt_zero _)⟩
      case round =>
        obtain ⟨i, hi, rfl, hok⟩ := hrel
        have HOK := Lib.hid hok
        clear hok
        by_cases hlt : i < n
        · obtain ⟨b, off, rfl, _, hc⟩ := HZ.out i hlt
          dsimp only at hc
          by_cases hb : cbad (zs.getD i 0) = true
          · have HF : Hid (pfault W H zs = 1) := by
              show pfault W H zs = 1
              rw [HP.out, if_pos (any_yes (k := i) (by rw [HL.out]; exact hlt) hb)]
            unfold cbad at hb
            have hb' := of_decide_eq_true hb
            clear hb
            generalize zs.getD i 0 = z at *
            have hb2 : z < 0 ∨ 1 < z := by omega
            clear hb'
            rcases hb2 with h | h
            · go_wp2_with fail
              go_ret
              exact ⟨congrArg (fun z => Ending.returned (.int .i64 z)) HF.out.symm, HB.out⟩
            · go_wp2_with fail
              go_ret
              exact ⟨congrArg (fun z => Ending.returned (.int .i64 z)) HF.out.symm, HB.out⟩
          · have hb1 := Bool.eq_false_iff.2 hb
            have HN : Hid (∀ k, k < i + 1 → cbad (zs.getD k 0) = false) := fun k hk => by
              by_cases hki : k = i
              · rw [hki]; exact hb1
              · exact HOK.out k (by omega)
            unfold cbad at hb1
            have hb' := of_decide_eq_false hb1
            clear hb hb1
            generalize zs.getD i 0 = z at *
            have hz1 : ¬ z < 0 := by omega
            have hz2 : ¬ 1 < z := by omega
            clear hb'
            go_wp2_with fail
            go_round
            case rel => exact ⟨i + 1, by omega, by go_num, HN.out⟩
            case measure => simp [intOf]; omega
        · have HF : Hid (pfault W H zs = 0) := by
            show pfault W H zs = 0
            rw [HP.out, if_neg (by rw [any_or HL.out fun k hk => HOK.out k (by omega)]; simp)]
          go_wp2_with fail
          go_ret
          exact ⟨congrArg (fun z => Ending.returned (.int .i64 z)) HF.out.symm, HB.out⟩
    · have HF : Hid (pfault W H zs = 3) := by
        show pfault W H zs = _
        unfold pfault; rw [if_neg (by simp; exact ⟨h1, h2, h3, h4⟩), if_pos (by rw [HL.out]; exact hn)]
      have hwr : IntKind.i64.wrap (W * H) = W * H := by rw [IntKind.wrap_i64]; omega
      have hne : ((n : Int) != W * H) = true := by rw [bne_iff_ne]; exact hn
      go_enter Tryd.func7, Tryd.ntmps7
      go_wp2_with fail
      go_ret
      exact ⟨congrArg (fun z => Ending.returned (.int .i64 z)) HF.out.symm, HB.out⟩
  · have HF : Hid (pfault W H zs = 1) := by
      show pfault W H zs = 1
      unfold pfault; rw [if_pos hs]
    have hd : W < 0 ∨ (0 ≤ W ∧ 100 < W) ∨ (0 ≤ W ∧ W ≤ 100 ∧ H < 0) ∨ (0 ≤ W ∧ W ≤ 100 ∧ 0 ≤ H ∧ 100 < H) := by unfold okSides at hs; omega
    rcases hd with h1 | ⟨h1, h2⟩ | ⟨h1, h2, h3⟩ | ⟨h1, h2, h3, h4⟩
    all_goals
      go_enter Tryd.func7, Tryd.ntmps7
      go_wp2_with fail
      go_ret
      exact ⟨congrArg (fun z => Ending.returned (.int .i64 z)) HF.out.symm, HB.out⟩
theorem quarter_any {v : Nat} (hv : v < 16) (w : World) : Calls Tryd.prog 26 #[.int .i64 v] w fun e w' => e = .returned (.int .i64 (trn v : Nat)) ∧ w = w' := by
  rcases sixteen hv with rfl | rfl | rfl | rfl | rfl | rfl | rfl | rfl | rfl | rfl | rfl | rfl | rfl | rfl | rfl | rfl
  all_goals
    go_enter Tryd.func26, Tryd.ntmps26
    go_wp2
    go_ret
    exact ⟨congrArg (fun z => Ending.returned (.int .i64 z)) (by decide +kernel), rfl⟩
theorem pc_fin : ∀ v : Fin 16, pc v.val = v.val % 2 + pc (v.val / 2) := by decide +kernel
set_option maxHeartbeats 1000000 in
theorem rones_any {v : Nat} (hv : v < 16) (w : World) : Calls Tryd.prog 25 #[.int .i64 v] w fun e w' => e = .returned (.int .i64 (pc v : Nat)) ∧ w = w' := by
  go_enter Tryd.func25, Tryd.ntmps25
  go_wp2_with fail
  go_loop [0, 3] (fun u k => ∃ n r : Nat, n < 16 ∧ r ≤ 100 ∧ u = .int .i64 n ∧ k = .int .i64 r ∧ r + pc n = pc v) (fun u _ => (intOf u).toNat)
  case atStart => exact ⟨v, 0, hv, by omega, rfl, rfl, by omega⟩
  case round =>
    obtain ⟨n, r, hn, hr, rfl, rfl, he⟩ := hrel
    have HE := Lib.hid he
    have HPF := Lib.hid (pc_fin ⟨n, hn⟩)
    dsimp only at HPF
    clear he
    have hpv : pc v ≤ 4 := by unfold pc; have := bitN_lt v 0; have := bitN_lt v 1; have := bitN_lt v 2; have := bitN_lt v 3; omega
    have hr4 : r ≤ 4 := by have := HE.out; omega
    by_cases h0 : 0 < n
    · obtain ⟨m, hm⟩ : ∃ m, m = n / 2 := ⟨_, rfl⟩
      obtain ⟨d, hd⟩ : ∃ d, d = n % 2 := ⟨_, rfl⟩
      have hmt : (n : Int).tdiv 2 = (m : Int) := by rw [hm]; exact Int.ofNat_tdiv _ _
      have hdt : (n : Int).tmod 2 = (d : Int) := by rw [hd]; exact Int.ofNat_tmod _ _
      have hmn : m < n := by omega
      have hd1 : d ≤ 1 := by omega
      rw [← hm, ← hd] at HPF
      clear hm hd
      go_wp2_with fail
      go_round
      case rel => exact ⟨m, r + d, by omega, by omega, rfl, by go_num, by have := HE.out; have := HPF.out; omega⟩
      case measure => simp [intOf]; omega
    · have hn0 : n = 0 := by omega
      subst hn0
      have hpv2 : Hid (r = pc v) := by
        have := HE.out
        have h00 : pc 0 = 0 := by decide
        show r = pc v
        omega
      rw [hpv2.out]
      go_wp2_with fail
      go_ret
      exact ⟨rfl, rfl⟩
theorem below_of_eq {w w' : World} (h : w = w') : Below w.heap.size w w' := by subst h; exact Below.refl _ _
set_option maxHeartbeats 4000000 in
theorem rkeeps_ok (ta : Option Addr) (tn tc : Nat) (tz : List Int) (w : World) (hT : Ints.Is w ta tn tz) (hf : tfault tz = 0) :
    Calls Tryd.prog 15 #[.slice ta tn tc] w fun e w' => e = .returned (.bool (keepsB tz)) ∧ w = w' := by
  obtain ⟨h16, htb⟩ := tfault_zero hf
  obtain rfl : tn = 16 := by rw [← hT.len]; exact h16
  have HT := Lib.hid hT.cells
  have HTB := Lib.hid htb
  clear hT hf h16 htb
  go_enter Tryd.func15, Tryd.ntmps15
  go_wp2_with fail
  go_loop [3] (fun v => ∃ i : Nat, i ≤ 16 ∧ v = .int .i64 i ∧ All (fun b => pc (tN tz b) = pc b) i) (fun v => 16 - (intOf v).toNat)
  case atStart => exact ⟨0, Nat.zero_le _, rfl, All.zero _⟩
  case round =>
    obtain ⟨i, hi, rfl, hall⟩ := hrel
    have HA := Lib.hid hall
    clear hall
    by_cases hlt : i < 16
    · obtain ⟨b, off, rfl, _, hc⟩ := HT.out i hlt
      dsimp only at hc
      rw [tN_at HTB.out i] at hc
      have ht16 := tN_lt HTB.out i
      have HO1 := Lib.hid (rones_any hlt w)
      have HO2 := Lib.hid (rones_any ht16 w)
      by_cases he : pc (tN tz i) = pc i
      · have HN := Lib.hid (HA.out.next he)
        rw [he] at HO2
        clear he
        generalize tN tz i = tv at *
        generalize pc i = q at *
        go_wp2_with fail
        refine HO1.out.mono ?_
        rintro e2 w2 ⟨rfl, rfl⟩
        go_wp2_with fail
        refine HO2.out.mono ?_
        rintro e3 w3 ⟨rfl, rfl⟩
        go_wp2_with fail
        go_round
        case rel => exact ⟨i + 1, by omega, by go_num, HN.out⟩
        case measure => simp [intOf]; omega
      · have HF : Hid (keepsB tz = false) := @decide_eq_false _ (Classical.propDecidable _) fun h => he (h i hlt)
        have hno : (((pc i : Nat) : Int) != ((pc (tN tz i) : Nat) : Int)) = true := by rw [bne_iff_ne]; omega
        clear he
        generalize tN tz i = tv at *
        generalize pc i = q at *
        generalize pc tv = q' at *
        go_wp2_with fail
        refine HO1.out.mono ?_
        rintro e2 w2 ⟨rfl, rfl⟩
        go_wp2_with fail
        refine HO2.out.mono ?_
        rintro e3 w3 ⟨rfl, rfl⟩
        go_wp2_with fail
        go_ret
        exact ⟨congrArg (fun b => Ending.returned (.bool b)) HF.out.symm, rfl⟩
    · have HF : Hid (keepsB tz = true) := @decide_eq_true _ (Classical.propDecidable _) fun b hb => HA.out b (by omega)
      go_wp2
      go_ret
      exact ⟨congrArg (fun b => Ending.returned (.bool b)) HF.out.symm, rfl⟩
set_option maxHeartbeats 4000000 in
theorem rturns_ok (ta : Option Addr) (tn tc : Nat) (tz : List Int) (w : World) (hT : Ints.Is w ta tn tz) (hf : tfault tz = 0) :
    Calls Tryd.prog 16 #[.slice ta tn tc] w fun e w' => e = .returned (.bool (turnsB tz)) ∧ w = w' := by
  obtain ⟨h16, htb⟩ := tfault_zero hf
  obtain rfl : tn = 16 := by rw [← hT.len]; exact h16
  have HT := Lib.hid hT.cells
  have HTB := Lib.hid htb
  clear hT hf h16 htb
  go_enter Tryd.func16, Tryd.ntmps16
  go_wp2_with fail
  go_loop [3] (fun v => ∃ i : Nat, i ≤ 16 ∧ v = .int .i64 i ∧ All (fun b => tN tz (trn b) = trn (tN tz b)) i) (fun v => 16 - (intOf v).toNat)
  case atStart => exact ⟨0, Nat.zero_le _, rfl, All.zero _⟩
  case round =>
    obtain ⟨i, hi, rfl, hall⟩ := hrel
    have HA := Lib.hid hall
    clear hall
    by_cases hlt : i < 16
    · obtain ⟨b, off, rfl, _, hc⟩ := HT.out i hlt
      obtain ⟨b', off', e', _, hc2⟩ := HT.out (trn i) (trn_lt i)
      cases e'
      dsimp only at hc hc2
      rw [tN_at HTB.out] at hc hc2
      have ht16 := tN_lt HTB.out i
      have HO1 := Lib.hid (quarter_any hlt w)
      have HO2 := Lib.hid (quarter_any ht16 w)
      have hti := trn_lt i
      by_cases he : tN tz (trn i) = trn (tN tz i)
      · have HN := Lib.hid (HA.out.next he)
        rw [he] at hc2
        clear he
        generalize tN tz i = tv at *
        generalize trn i = q at *
        generalize trn tv = q' at *
        go_wp2_with fail
        refine HO1.out.mono ?_
        rintro e2 w2 ⟨rfl, rfl⟩
        go_wp2_with fail
        refine HO2.out.mono ?_
        rintro e3 w3 ⟨rfl, rfl⟩
        go_wp2_with fail
        go_round
        case rel => exact ⟨i + 1, by omega, by go_num, HN.out⟩
        case measure => simp [intOf]; omega
      · have HF : Hid (turnsB tz = false) := @decide_eq_false _ (Classical.propDecidable _) fun h => he (h i hlt)
        have hno : (((tN tz (trn i) : Nat) : Int) != ((trn (tN tz i) : Nat) : Int)) = true := by rw [bne_iff_ne]; omega
        clear he
        generalize tN tz (trn i) = q'' at *
        generalize tN tz i = tv at *
        generalize trn i = q at *
        generalize trn tv = q' at *
        go_wp2_with fail
        refine HO1.out.mono ?_
        rintro e2 w2 ⟨rfl, rfl⟩
        go_wp2_with fail
        refine HO2.out.mono ?_
        rintro e3 w3 ⟨rfl, rfl⟩
        go_wp2_with fail
        go_ret
        exact ⟨congrArg (fun b => Ending.returned (.bool b)) HF.out.symm, rfl⟩
    · have HF : Hid (turnsB tz = true) := @decide_eq_true _ (Classical.propDecidable _) fun b hb => HA.out b (by omega)
      go_wp2
      go_ret
      exact ⟨congrArg (fun b => Ending.returned (.bool b)) HF.out.symm, rfl⟩
end Bl
end Go.Proofs.YtmnefdcgknmnjaaDoor
