/- WALK: the document's edenref1.Shape, At; edenref3.Fault, bit, Becomes. -/
import Derived.Test.YthipeeagpllfeaaDoorPnK
import Derived.Test.YthipeeagpllfeaaDoorRkF
namespace Go.Proofs.YthipeeagpllfeaaDoor
set_option linter.unusedSimpArgs false
set_option linter.unusedVariables false
open Go.RowKit
namespace Pn
open Tld Mem Bl

theorem any_or {zs : List Int} {p : Int → Bool} {n : Nat} (hz : zs.length = n) (h : ∀ k, k < n → p (zs.getD k 0) = false) : zs.any p = false := any_no fun k hk => h k (by omega)
set_option maxHeartbeats 4000000 in
theorem shape_any (W H : Int) (a : Option Addr) (n c : Nat) (zs : List Int) (w : World) (hT : Ints.Is w a n zs) :
    Calls Tryd.prog 12 #[.agg #[.int .i64 W, .int .i64 H, .slice a n c]] w fun e w' => e = .returned (.int .i64 (pfault W H zs)) ∧ Below w.heap.size w w' := by
  have hle := hT.le
  unfold maxLen at hle
  obtain ⟨hR, hB⟩ : Row (w.alloc (.cells #[.int .i64 W, .int .i64 H, .slice a n c] 26)) w.heap.size 26 (boxP W H a n c) ∧ Below w.heap.size w (w.alloc (.cells #[.int .i64 W, .int .i64 H, .slice a n c] 26)) := ⟨row_alloc w _ _, (Below.refl _ _).alloc (Nat.le_refl _) _⟩
  have HZ := Lib.hid (hT.cells.keep hB)
  have HL := Lib.hid hT.len
  have HB := Lib.hid hB
  have f0 := hR.cell 0
  have f1 := hR.cell 1
  have f2 := hR.cell 2
  unfold boxP at f0 f1 f2
  dsimp only [List.getElem?_cons_succ, List.getElem?_cons_zero] at f0 f1 f2
  clear hT hR hB
  by_cases hs : okSides W H
  · obtain ⟨h1, h2, h3, h4⟩ := hs
    have hp0 : 0 ≤ W * H := Int.mul_nonneg h1 h3
    have hp1 : W * H ≤ 100 * 100 := Int.mul_le_mul h2 h4 h3 (by omega)
    by_cases hn : (n : Int) = W * H
    · have HP : Hid (pfault W H zs = if zs.any cbad = true then 1 else 0) := by
        show pfault W H zs = _
        unfold pfault; rw [if_neg (by simp; exact ⟨h1, h2, h3, h4⟩), if_neg (by simp [HL.out, hn])]
      have hwr : IntKind.i64.wrap (W * H) = (n : Int) := by rw [IntKind.wrap_i64]; omega
      have HNL := Lib.hid hn
      clear hn hp0 hp1
      go_enter Tryd.func12, Tryd.ntmps12
      go_wp2_with fail
      generalize w.alloc (.cells #[.int .i64 W, .int .i64 H, .slice a n c] 26) = w1 at *
      go_loop [3] (fun v => ∃ i : Nat, i ≤ n ∧ v = .int .i64 i ∧ (∀ k, k < i → cbad (zs.getD k 0) = false)) (fun v => n - (intOf v).toNat)
      case atStart => exact ⟨0, Nat.zero_le _, rfl, fun k hk => absurd hk (Nat.not_lt_zero _)⟩
      case round =>
        obtain ⟨i, hi, rfl, hok⟩ := hrel
        have HOK := Lib.hid hok
        clear hok
        by_cases hlt : i < n
        · obtain ⟨b, off, rfl, _, hc⟩ := HZ.out i hlt
          dsimp only at hc
          by_cases hb : cbad (zs.getD i 0) = true
          · have HF : Hid (pfault W H zs = 1) := by
              show pfault W H zs = 1
              rw [HP.out, if_pos (any_yes (k := i) (by rw [HL.out]; exact hlt) hb)]
            unfold cbad at hb
            have hb' := of_decide_eq_true hb
            clear hb
            generalize zs.getD i 0 = z at *
            have hb2 : z < 0 ∨ 1 < z := by omega
            clear hb'
            rcases hb2 with h | h
            · go_wp2_with fail
              go_ret
              exact ⟨congrArg (fun z => Ending.returned (.int .i64 z)) HF.out.symm, HB.out⟩
            · go_wp2_with fail
              go_ret
              exact ⟨congrArg (fun z => Ending.returned (.int .i64 z)) HF.out.symm, HB.out⟩
          · have hb1 := Bool.eq_false_iff.2 hb
            have HN : Hid (∀ k, k < i + 1 → cbad (zs.getD k 0) = false) := fun k hk => by
              by_cases hki : k = i
              · rw [hki]; exact hb1
              · exact HOK.out k (by omega)
            unfold cbad at hb1
            have hb' := of_decide_eq_false hb1
            clear hb hb1
            generalize zs.getD i 0 = z at *
            have hz1 : ¬ z < 0 := by omega
            have hz2 : ¬ 1 < z := by omega
            clear hb'
            go_wp2_with fail
            go_round
            case rel => exact ⟨i + 1, by omega, by go_num, HN.out⟩
            case measure => simp [intOf]; omega
        · have HF : Hid (pfault W H zs = 0) := by
            show pfault W H zs = 0
            rw [HP.out, if_neg (by rw [any_or HL.out fun k hk => HOK.out k (by omega)]; simp)]
          go_wp2_with fail
          go_ret
          exact ⟨congrArg (fun z => Ending.returned (.int .i64 z)) HF.out.symm, HB.out⟩
    · have HF : Hid (pfault W H zs = 3) := by
        show pfault W H zs = _
        unfold pfault; rw [if_neg (by simp; exact ⟨h1, h2, h3, h4⟩), if_pos (by rw [HL.out]; exact hn)]
      have hwr : IntKind.i64.wrap (W * H) = W * H := by rw [IntKind.wrap_i64]; omega
      have hne : ((n : Int) != W * H) = true := by rw [bne_iff_ne]; exact hn
      go_enter Tryd.func12, Tryd.ntmps12
      go_wp2_with fail
      go_ret
      exact ⟨congrArg (fun z => Ending.returned (.int .i64 z)) HF.out.symm, HB.out⟩
  · have HF : Hid (pfault W H zs = 1) := by
      show pfault W H zs = 1
      unfold pfault; rw [if_pos hs]
    have hd : W < 0 ∨ (0 ≤ W ∧ 100 < W) ∨ (0 ≤ W ∧ W ≤ 100 ∧ H < 0) ∨ (0 ≤ W ∧ W ≤ 100 ∧ 0 ≤ H ∧ 100 < H) := by unfold okSides at hs; omega
    rcases hd with h1 | ⟨h1, h2⟩ | ⟨h1, h2, h3⟩ | ⟨h1, h2, h3, h4⟩
    all_goals
      go_enter Tryd.func12, Tryd.ntmps12
      go_wp2_with fail
      go_ret
      exact ⟨congrArg (fun z => Ending.returned (.int .i64 z)) HF.out.symm, HB.out⟩
set_option maxHeartbeats 8000000 in
set_option maxRecDepth 1000000 in
theorem fault1_all (K B S st ra : Int) (ta : Option Addr) (tn tc : Nat) (tz : List Int) (tu : ByteArray) (w : World) (hT : Ints.Is w ta tn tz) (hu : tu.size ≤ 9223372036854775807) :
    Calls Tryd.prog 14 #[.agg #[.int .i64 K, .int .i64 B, .int .i64 S, .int .i64 st, .int .i64 ra, .slice ta tn tc, .string tu]] w fun e w' => e = .returned (.int .i64 (rulf K B S st ra tn tz tu)) ∧ Below w.heap.size w w' := by
  by_cases h : K = 2
  · subst h
    exact Ln.fault1_line B S st ra ta tn tc tz tu w hT hu
  · unfold rulf
    rw [if_neg h]
    exact Ln.fault1_other K B S st ra ta tn tc tz tu w hT hu h
set_option maxHeartbeats 8000000 in
set_option maxRecDepth 1000000 in
theorem fault3_any (K B S st ra : Int) (ta : Option Addr) (tn tc : Nat) (tz : List Int) (tu : ByteArray) (W H : Int) (a : Option Addr) (n c : Nat) (zs : List Int) (w : World) (hT : Ints.Is w ta tn tz) (hu : tu.size ≤ 9223372036854775807) (hZ : Ints.Is w a n zs) :
    Calls Tryd.prog 5 #[.agg #[.int .i64 K, .int .i64 B, .int .i64 S, .int .i64 st, .int .i64 ra, .slice ta tn tc, .string tu], .agg #[.int .i64 W, .int .i64 H, .slice a n c]] w fun e w' => e = .returned (.int .i64 (plf K B S st ra tn tz tu W H zs)) ∧ Below w.heap.size w w' := by
  have HRK := Lib.hid (fun w2 (h : Below w.heap.size w w2) => fault1_all K B S st ra ta tn tc tz tu w2 (hT.keep h) hu)
  have HPK := Lib.hid (fun w2 (h : Below w.heap.size w w2) => shape_any W H a n c zs w2 (hZ.keep h))
  obtain ⟨e1, he1⟩ : ∃ e1, e1 = rulf K B S st ra tn tz tu := ⟨_, rfl⟩
  obtain ⟨e2, he2⟩ : ∃ e2, e2 = pfault W H zs := ⟨_, rfl⟩
  obtain ⟨ev, hev⟩ : ∃ ev, ev = plf K B S st ra tn tz tu W H zs := ⟨_, rfl⟩
  have HPF : Hid (ev = if e1 ≠ 0 then e1 else if e2 ≠ 0 then e2 else if K ≠ 1 then 1 else 0) := Lib.hid (by rw [hev, he1, he2]; rfl)
  rw [← he1] at HRK
  rw [← he2] at HPK
  rw [← hev]
  clear hT hu hZ he1 he2 hev
  go_enter Tryd.func5, Tryd.ntmps5
  go_upto_region 1 with fail
  obtain ⟨hr1, hr2, hb2⟩ := two_new w 24 26 (rulP K B S st ra ta tn tc tu) (boxP W H a n c)
  have HU : Hid (Row ((w.alloc (.cells #[.int .i64 K, .int .i64 B, .int .i64 S, .int .i64 st, .int .i64 ra, .slice ta tn tc, .string tu] 24)).alloc (.cells #[.int .i64 W, .int .i64 H, .slice a n c] 26)) w.heap.size 24 (rulP K B S st ra ta tn tc tu)) := hr1
  have HP : Hid (Row ((w.alloc (.cells #[.int .i64 K, .int .i64 B, .int .i64 S, .int .i64 st, .int .i64 ra, .slice ta tn tc, .string tu] 24)).alloc (.cells #[.int .i64 W, .int .i64 H, .slice a n c] 26)) (w.heap.size + 1) 26 (boxP W H a n c)) := hr2
  have HB : Hid (Below w.heap.size w ((w.alloc (.cells #[.int .i64 K, .int .i64 B, .int .i64 S, .int .i64 st, .int .i64 ra, .slice ta tn tc, .string tu] 24)).alloc (.cells #[.int .i64 W, .int .i64 H, .slice a n c] 26))) := hb2
  clear hr1 hr2 hb2
  generalize (w.alloc (.cells #[.int .i64 K, .int .i64 B, .int .i64 S, .int .i64 st, .int .i64 ra, .slice ta tn tc, .string tu] 24)).alloc (.cells #[.int .i64 W, .int .i64 H, .slice a n c] 26) = w1 at *
  obtain ⟨ub, hub⟩ : ∃ ub, ub = w.heap.size := ⟨_, rfl⟩
  rw [← hub] at HU HP ⊢
  obtain ⟨pb, hpb⟩ : ∃ pb, pb = ub + 1 := ⟨_, rfl⟩
  rw [← hpb] at HP ⊢
  clear hub hpb
  have l5 := row_range HU.out
  go_wp2_with (refine wpList_load_mid rfl 24 _ rfl ub 0 rfl _ _ l5 Tryd.underlying24 rfl infoRule ?_)
  refine (HRK.out _ HB.out).mono ?_
  rintro e3 w2 ⟨rfl, hb2⟩
  have HU := Lib.hid (HU.out.keep hb2 HU.out.lt)
  have HP := Lib.hid (HP.out.keep hb2 HP.out.lt)
  have HB := Lib.hid (HB.out.trans (hb2.mono HB.out.size))
  clear l5 hb2
  have f0 := HU.out.cell 0
  unfold rulP at f0
  dsimp only [List.getElem?_cons_zero] at f0
  by_cases h1 : e1 = 0
  · have h1b : (e1 == 0) = true := by rw [h1]; rfl
    have l5 := row_range HP.out
    have HF2 : Hid (ev = if e2 ≠ 0 then e2 else if K ≠ 1 then 1 else 0) := Lib.hid (by rw [HPF.out, if_neg (fun x => x h1)])
    subst h1
    clear h1b
    go_wp2_with (refine wpList_load_mid rfl 26 _ rfl pb 0 rfl _ _ l5 Tryd.underlying26 rfl infoPat ?_)
    refine (HPK.out _ HB.out).mono ?_
    rintro e4 w3 ⟨rfl, hb3⟩
    have HU := Lib.hid (HU.out.keep hb3 HU.out.lt)
    have HB := Lib.hid (HB.out.trans (hb3.mono HB.out.size))
    clear l5 hb3 f0
    have f0 := HU.out.cell 0
    unfold rulP at f0
    dsimp only [List.getElem?_cons_zero] at f0
    by_cases h2 : e2 = 0
    · by_cases h3 : K = 1
      · have hk : (K != 1) = false := by rw [h3]; rfl
        have HV : Hid (ev = 0) := Lib.hid (by rw [HF2.out, if_neg (fun x => x h2), if_neg (fun x => x h3)])
        subst h2
        clear h3
        go_wp2_with fail
        go_ret
        exact ⟨by rw [HV.out]; rfl, HB.out⟩
      · have hk : (K != 1) = true := by rw [bne_iff_ne]; exact h3
        have HV : Hid (ev = 1) := Lib.hid (by rw [HF2.out, if_neg (fun x => x h2), if_pos h3])
        subst h2
        clear h3
        go_wp2_with fail
        go_ret
        exact ⟨by rw [HV.out]; rfl, HB.out⟩
    · have HV : Hid (ev = e2) := Lib.hid (by rw [HF2.out, if_pos h2])
      have h2b : (e2 == 0) = false := beq_eq_false_iff_ne.2 h2
      go_wp2_with fail
      go_ret
      exact ⟨by rw [HV.out]; rfl, HB.out⟩
  · have HV : Hid (ev = e1) := Lib.hid (by rw [HPF.out, if_pos h1])
    have h1b : (e1 == 0) = false := beq_eq_false_iff_ne.2 h1
    go_wp2_with fail
    go_ret
    exact ⟨by rw [HV.out]; rfl, HB.out⟩
theorem bit_any (v i : Nat) (hi : i < 64) (hv : v < 512) (w : World) : Calls Tryd.prog 47 #[.int .i64 v, .int .i64 i] w fun e w' => e = .returned (.int .i64 (bitN v i : Nat)) ∧ w' = w := by
  go_enter Tryd.func47, Tryd.ntmps47
  go_wp2_with fail
  go_loop [5, 0] (fun u x => ∃ k : Nat, k ≤ i ∧ u = .int .i64 (k : Nat) ∧ x = .int .i64 ((v / 2 ^ k : Nat) : Int)) (fun u _ => i - (intOf u).toNat)
  case atStart => exact ⟨0, Nat.zero_le _, rfl, by rw [Nat.pow_zero, Nat.div_one]⟩
  case round =>
    obtain ⟨k, hk, rfl, rfl⟩ := hrel
    have hp : v / 2 ^ k ≤ v := Nat.div_le_self _ _
    have HN : Hid (v / 2 ^ (k + 1) = v / 2 ^ k / 2) := Lib.hid (by rw [Nat.pow_succ, Nat.div_div_eq_div_mul])
    have HE : Hid (k = i → bitN v i = v / 2 ^ k % 2) := Lib.hid (fun e => by subst e; rfl)
    obtain ⟨p, hpe⟩ : ∃ p, p = v / 2 ^ k := ⟨_, rfl⟩
    rw [← hpe] at hp HN HE ⊢
    clear hpe
    have hd : (p : Int).tdiv 2 = ((p / 2 : Nat) : Int) := Int.ofNat_tdiv _ _
    have hm : (p : Int).tmod 2 = ((p % 2 : Nat) : Int) := Int.ofNat_tmod _ _
    by_cases hki : k < i
    · have hki2 : (k : Int) < (i : Int) := by omega
      obtain ⟨p2, hp2⟩ : ∃ p2, p2 = p / 2 := ⟨_, rfl⟩
      rw [← hp2] at hd HN
      have hw : wrap64 (p2 : Int) = (p2 : Int) := wr_nat rfl (by omega)
      clear hm hp2
      go_wp2_with fail
      go_round
      case rel => exact ⟨k + 1, hki, by go_num, by rw [HN.out, hw]⟩
      case measure => simp [intOf]; omega
    · have hki2 : ¬ (k : Int) < (i : Int) := by omega
      have HE2 := Lib.hid (HE.out (by omega))
      clear hd
      go_wp2_with fail
      go_ret
      exact ⟨by rw [HE2.out]; rfl, rfl⟩
set_option maxRecDepth 1000000 in
theorem rbecomes_any (K st ra : Int) (B S : Nat) (ta : Option Addr) (tn tc : Nat) (tu : ByteArray) (c n : Nat) (w : World) (hB : B < 512) (hS : S < 512) (hn : n < 64) (hc : c < 2) :
    Calls Tryd.prog 32 #[.agg #[.int .i64 K, .int .i64 B, .int .i64 S, .int .i64 st, .int .i64 ra, .slice ta tn tc, .string tu], .int .i64 c, .int .i64 n] w fun e w' => e = .returned (.int .i64 (bec B S c n : Nat)) ∧ Below w.heap.size w w' := by
  have HB0 := Lib.hid (fun w2 => bit_any B n hn hB w2)
  have HS0 := Lib.hid (fun w2 => bit_any S n hn hS w2)
  have HBC : Hid (∀ c, bec B S c n = bitN (if c = 1 then S else B) n) := Lib.hid fun c => rfl
  go_enter Tryd.func32, Tryd.ntmps32
  go_upto_region 1 with fail
  have HR0 : Row (w.alloc (.cells #[.int .i64 K, .int .i64 B, .int .i64 S, .int .i64 st, .int .i64 ra, .slice ta tn tc, .string tu] 24)) w.heap.size 24 (rulP K B S st ra ta tn tc tu) := row_alloc w _ _
  have HBw : Below w.heap.size w (w.alloc (.cells #[.int .i64 K, .int .i64 B, .int .i64 S, .int .i64 st, .int .i64 ra, .slice ta tn tc, .string tu] 24)) := (Below.refl _ _).alloc (Nat.le_refl _) _
  generalize w.alloc (.cells #[.int .i64 K, .int .i64 B, .int .i64 S, .int .i64 st, .int .i64 ra, .slice ta tn tc, .string tu] 24) = w1 at *
  have f1 := HR0.cell 1
  have f2 := HR0.cell 2
  unfold rulP at f1 f2
  dsimp only [List.getElem?_cons_succ, List.getElem?_cons_zero] at f1 f2
  have HB := Lib.hid HBw
  clear HR0 HBw
  by_cases hc1 : c = 1
  · subst hc1
    go_wp2_with fail
    refine (HS0.out _).mono ?_
    rintro e w2 ⟨rfl, rfl⟩
    go_wp2_with fail
    go_ret
    exact ⟨by rw [HBC.out, if_pos rfl]; rfl, HB.out⟩
  · obtain rfl : c = 0 := by omega
    go_wp2_with fail
    refine (HB0.out _).mono ?_
    rintro e w2 ⟨rfl, rfl⟩
    go_wp2_with fail
    go_ret
    exact ⟨by rw [HBC.out, if_neg (by decide)]; rfl, HB.out⟩
end Pn
end Go.Proofs.YthipeeagpllfeaaDoor
