/- WALK: edenref4.Gas: the fault of a gas, as the document tells it. -/
import Derived.Test.YtekoldebcihdoaaDoorGsA
namespace Go.Proofs.YtekoldebcihdoaaDoor
set_option linter.unusedSimpArgs false
set_option linter.unusedVariables false
open Go.RowKit
namespace Gs
open Tld Mem

set_option maxHeartbeats 4000000 in
set_option maxRecDepth 1000000 in
theorem gas_ref (K W H : Int) (a : Option Addr) (n c : Nat) (zs : List Int) (w : World) (hZ : Ints.Is w a n zs) :
    Calls Tryd.prog 4 #[gas K W H a n c] w fun e w' => e = .returned ((.int .i64 (gfault K W H zs))) ∧ Below w.heap.size w w' := by
  have hs := hZ.le
  unfold maxLen at hs
  have HZ : Hid (∀ w2, Below w.heap.size w w2 → Ints.Is w2 a n zs) := Lib.hid (fun w2 h => hZ.keep h)
  have HLN := Lib.hid hZ.len
  clear hZ
  unfold gas
  go_enter Tryd.func4, Tryd.ntmps4
  go_upto_region 1 with fail
  have hr0 : Row (w.alloc (.cells #[.int .i64 K, .int .i64 W, .int .i64 H, .slice a n c] 24)) w.heap.size 24 (boxG K W H a n c) := row_alloc w _ _
  have hb0 : Below w.heap.size w (w.alloc (.cells #[.int .i64 K, .int .i64 W, .int .i64 H, .slice a n c] 24)) := (Below.refl _ _).alloc (Nat.le_refl _) _
  have HR := Lib.hid hr0
  have HB := Lib.hid hb0
  clear hr0 hb0
  generalize w.alloc (.cells #[.int .i64 K, .int .i64 W, .int .i64 H, .slice a n c] 24) = w1 at *
  obtain ⟨g, hg⟩ : ∃ g, g = w.heap.size := ⟨_, rfl⟩
  rw [← hg] at HR ⊢
  clear hg
  have f0 := HR.out.cell 0
  have f1 := HR.out.cell 1
  have f2 := HR.out.cell 2
  have f3 := HR.out.cell 3
  unfold boxG at f0 f1 f2 f3
  dsimp only [List.getElem?_cons_succ, List.getElem?_cons_zero] at f0 f1 f2 f3
  go_cut [32] (fun v wx => v = .bool (decide (¬ sidesOk K W H)) ∧ wx = w1)
  case first =>
    have hno : ∀ x : Int, ¬ x = 4 → (x == 4) = false := fun x h => beq_eq_false_iff_ne.2 h
    by_cases k4 : K = 4
    · --{k4
      subst k4
      by_cases w1 : W < 1
      · have HH : Hid (¬ sidesOk 4 W H) := Lib.hid (fun h => by obtain ⟨_, e1, e2, e3, e4⟩ := h; omega)
        go_wp2_with fail
        go_meet
        case rel => exact ⟨congrArg Value.bool (nsides HH.out).symm, rfl⟩
      by_cases w2 : 100 < W
      · have HH : Hid (¬ sidesOk 4 W H) := Lib.hid (fun h => by obtain ⟨_, e1, e2, e3, e4⟩ := h; omega)
        go_wp2_with fail
        go_meet
        case rel => exact ⟨congrArg Value.bool (nsides HH.out).symm, rfl⟩
      by_cases h1 : H < 1
      · have HH : Hid (¬ sidesOk 4 W H) := Lib.hid (fun h => by obtain ⟨_, e1, e2, e3, e4⟩ := h; omega)
        go_wp2_with fail
        go_meet
        case rel => exact ⟨congrArg Value.bool (nsides HH.out).symm, rfl⟩
      by_cases h2 : 100 < H
      · have HH : Hid (¬ sidesOk 4 W H) := Lib.hid (fun h => by obtain ⟨_, e1, e2, e3, e4⟩ := h; omega)
        go_wp2_with fail
        go_meet
        case rel => exact ⟨congrArg Value.bool (nsides HH.out).symm, rfl⟩
      have HH : Hid (sidesOk 4 W H) := Lib.hid ⟨by omega, by omega, by omega, by omega, by omega⟩
      go_wp2_with fail
      go_meet
      case rel => exact ⟨congrArg Value.bool (ysides HH.out).symm, rfl⟩
      --}
    by_cases k6 : K = 6
    · --{k6
      subst k6
      by_cases w1 : W < 1
      · have HH : Hid (¬ sidesOk 6 W H) := Lib.hid (fun h => by obtain ⟨_, e1, e2, e3, e4⟩ := h; omega)
        go_wp2_with fail
        go_meet
        case rel => exact ⟨congrArg Value.bool (nsides HH.out).symm, rfl⟩
      by_cases w2 : 100 < W
      · have HH : Hid (¬ sidesOk 6 W H) := Lib.hid (fun h => by obtain ⟨_, e1, e2, e3, e4⟩ := h; omega)
        go_wp2_with fail
        go_meet
        case rel => exact ⟨congrArg Value.bool (nsides HH.out).symm, rfl⟩
      by_cases h1 : H < 1
      · have HH : Hid (¬ sidesOk 6 W H) := Lib.hid (fun h => by obtain ⟨_, e1, e2, e3, e4⟩ := h; omega)
        go_wp2_with fail
        go_meet
        case rel => exact ⟨congrArg Value.bool (nsides HH.out).symm, rfl⟩
      by_cases h2 : 100 < H
      · have HH : Hid (¬ sidesOk 6 W H) := Lib.hid (fun h => by obtain ⟨_, e1, e2, e3, e4⟩ := h; omega)
        go_wp2_with fail
        go_meet
        case rel => exact ⟨congrArg Value.bool (nsides HH.out).symm, rfl⟩
      have HH : Hid (sidesOk 6 W H) := Lib.hid ⟨by omega, by omega, by omega, by omega, by omega⟩
      go_wp2_with fail
      go_meet
      case rel => exact ⟨congrArg Value.bool (ysides HH.out).symm, rfl⟩
      --}
    have HH : Hid (¬ sidesOk K W H) := Lib.hid (fun h => by have := h.1; omega)
    have q4 : (K != 4) = true := by rw [bne_iff_ne]; exact k4
    have q6 : (K != 6) = true := by rw [bne_iff_ne]; exact k6
    go_wp2_with fail
    go_meet
    case rel => exact ⟨congrArg Value.bool (nsides HH.out).symm, rfl⟩
  case rest =>
    obtain ⟨rfl, hwx⟩ := hcut
    rw [hwx]
    by_cases hsd : sidesOk K W H
    · --{ok
      rw [ysides hsd]
      have HSD := Lib.hid hsd
      clear hsd
      obtain ⟨q, hq⟩ : ∃ q, q = decide (shapeBad K W H n) := ⟨_, rfl⟩
      have HQ := Lib.hid hq
      clear hq
      go_upto_region 3 with fail
      go_cut [52] (fun v wx => v = .bool q ∧ wx = w1)
      case first =>
        obtain ⟨hk, hw1, hw2, hh1, hh2⟩ := HSD.out
        have hp0 : 0 ≤ W * H := Int.mul_nonneg (by omega) (by omega)
        have hp1 : W * H ≤ 100 * 100 := Int.mul_le_mul hw2 hh2 (by omega) (by omega)
        obtain ⟨x, hx⟩ : ∃ x, x = W * H := ⟨_, rfl⟩
        have hwr : IntKind.i64.wrap (W * H) = x := by rw [IntKind.wrap_i64, ← hx]; omega
        have hwr2 : wrap64 (W * H) = x := by unfold wrap64; rw [← hx]; omega
        have HX := Lib.hid hx
        have HQT : Hid (shapeBad K W H n → q = true) := fun h => by rw [HQ.out]; exact decide_eq_true h
        have HQF : Hid (¬ shapeBad K W H n → q = false) := fun h => by rw [HQ.out]; exact decide_eq_false h
        clear hp0 hp1 hx
        have hodd : H.tmod 2 = H % 2 := Int.tmod_eq_emod_of_nonneg (by omega)
        by_cases hn : (n : Int) = x
        · have hn1 : ((n : Int) != x) = false := by rw [hn]; simp
          rcases hk with rfl | rfl
          · have HF : Hid (q = false) := by exact HQF.out (by unfold shapeBad; rw [← HX.out]; omega)
            clear hn hodd
            go_wp2_with fail
            go_meet
            case rel => exact ⟨congrArg Value.bool HF.out.symm, rfl⟩
          · by_cases ho : H % 2 = 0
            · have HF : Hid (q = false) := by exact HQF.out (by unfold shapeBad; rw [← HX.out]; omega)
              have hm : H.tmod 2 = 0 := by rw [hodd, ho]
              clear hn hodd ho
              go_wp2_with fail
              go_meet
              case rel => exact ⟨congrArg Value.bool HF.out.symm, rfl⟩
            · have HF : Hid (q = true) := by exact HQT.out (by unfold shapeBad; rw [← HX.out]; omega)
              have hm : H.tmod 2 = 1 := by rw [hodd]; omega
              clear hn hodd ho
              go_wp2_with fail
              go_meet
              case rel => exact ⟨congrArg Value.bool HF.out.symm, rfl⟩
        · have hn1 : ((n : Int) != x) = true := by rw [bne_iff_ne]; exact hn
          have HF : Hid (q = true) := by exact HQT.out (.inr (by rw [← HX.out]; exact hn))
          rcases hk with rfl | rfl
          · clear hn hodd
            go_wp2_with fail
            go_meet
            case rel => exact ⟨congrArg Value.bool HF.out.symm, rfl⟩
          · by_cases ho : H % 2 = 0
            · have hm : H.tmod 2 = 0 := by rw [hodd, ho]
              clear hn hodd ho
              go_wp2_with fail
              go_meet
              case rel => exact ⟨congrArg Value.bool HF.out.symm, rfl⟩
            · have hm : H.tmod 2 = 1 := by rw [hodd]; omega
              clear hn hodd ho
              go_wp2_with fail
              go_meet
              case rel => exact ⟨congrArg Value.bool HF.out.symm, rfl⟩
      case rest =>
        obtain ⟨rfl, hwx⟩ := hcut
        rw [hwx]
        cases q
        · have HNB : Hid (¬ shapeBad K W H zs.length) := by
            show ¬ _
            rw [HLN.out]
            exact of_decide_eq_false HQ.out.symm
          have HE := Lib.hid (gfault_cells HSD.out HNB.out)
          have HT : Hid (top K = 16 ∨ top K = 64) := by
            show _ ∨ _
            unfold top
            split
            · exact .inl rfl
            · exact .inr rfl
          go_upto_if 55 with fail
          go_cut [3] (fun v wx => v = .int .i64 (top K - 1) ∧ wx = w1)
          case first =>
            rcases HSD.out.1 with rfl | rfl
            · go_wp2_with fail
              go_meet
              case rel => exact ⟨rfl, rfl⟩
            · go_wp2_with fail
              go_meet
              case rel => exact ⟨rfl, rfl⟩
          case rest =>
          obtain ⟨rfl, hwx⟩ := hcut
          rw [hwx]
          clear f0 f1 f2 f3 hwx
          obtain ⟨tp, htp⟩ : ∃ tp, tp = top K := ⟨_, rfl⟩
          rw [← htp] at HT ⊢
          have HTP := Lib.hid htp
          have htl : tp = 16 ∨ tp = 64 := HT.out
          clear htp
          go_wp2_with fail
          go_loopw [4] (fun v wr => ∃ i : Nat, i ≤ n ∧ v = .int .i64 (i : Nat) ∧ (∀ k, k < i → gbad K (zs.getD k 0) = false) ∧ Row wr g 24 (boxG K W H a n c) ∧ Below w.heap.size w wr) (fun v _ => n - (RowKit.intOf v).toNat)
          case atStart => exact ⟨0, Nat.zero_le _, rfl, fun k hk => absurd hk (Nat.not_lt_zero _), HR.out, HB.out⟩
          case round =>
            clear HR HB
            obtain ⟨i, hi, rfl, hok, hr, hb⟩ := hrel
            have HOKI := Lib.hid hok
            have HR := Lib.hid hr
            have HB := Lib.hid hb
            have f3 := hr.cell 3
            unfold boxG at f3
            dsimp only [List.getElem?_cons_succ, List.getElem?_cons_zero] at f3
            clear hok hr hb
            by_cases hin : i < n
            · have hi2 : (i : Int) < (n : Int) := by omega
              obtain ⟨b2, o2, rfl, _, c2⟩ := (HZ.out wr HB.out).cells i hin
              dsimp only at c2
              have HY : Hid (gbad K (zs.getD i 0) = true → gfault K W H zs = 1) := fun h => by
                rw [HE.out, if_pos (any_yes (p := gbad K) (k := i) (by rw [HLN.out]; exact hin) h)]
              have HOK2 : Hid (gbad K (zs.getD i 0) = false → ∀ k, k < i + 1 → gbad K (zs.getD k 0) = false) := fun h k hk => by
                by_cases hki : k = i
                · subst hki; exact h
                · exact HOKI.out k (by omega)
              have HIN := Lib.hid hin
              clear hin
              generalize zs.getD i 0 = z at *
              by_cases hz0 : z < 0
              · have HF : Hid (gfault K W H zs = 1) := HY.out (decide_eq_true (.inl hz0))
                go_wp2_with fail
                go_ret
                exact ⟨congrArg (fun z => Ending.returned (.int .i64 z)) HF.out.symm, HB.out⟩
              · by_cases hz1 : tp - 1 < z
                · have HF : Hid (gfault K W H zs = 1) := HY.out (decide_eq_true (.inr (by rw [← HTP.out]; omega)))
                  rcases htl with rfl | rfl
                  · go_wp2_with fail
                    go_ret
                    exact ⟨congrArg (fun z => Ending.returned (.int .i64 z)) HF.out.symm, HB.out⟩
                  · go_wp2_with fail
                    go_ret
                    exact ⟨congrArg (fun z => Ending.returned (.int .i64 z)) HF.out.symm, HB.out⟩
                · have HF := Lib.hid (HOK2.out (decide_eq_false (by rw [← HTP.out]; omega)))
                  rcases htl with rfl | rfl
                  · go_wp2_with fail
                    go_roundw
                    case rel => exact ⟨i + 1, HIN.out, by go_num, HF.out, HR.out, HB.out⟩
                    case measure => have := HIN.out; simp [RowKit.intOf]; omega
                  · go_wp2_with fail
                    go_roundw
                    case rel => exact ⟨i + 1, HIN.out, by go_num, HF.out, HR.out, HB.out⟩
                    case measure => have := HIN.out; simp [RowKit.intOf]; omega
            · have HF : Hid (gfault K W H zs = 0) := by
                show _ = _
                rw [HE.out, if_neg]
                rw [Bool.not_eq_true]
                exact any_no fun k hk => HOKI.out k (by rw [HLN.out] at hk; omega)
              have hnl : ¬ (i : Int) < (n : Int) := by omega
              go_wp2_with fail
              go_ret
              exact ⟨congrArg (fun z => Ending.returned (.int .i64 z)) HF.out.symm, HB.out⟩
        · have HE := Lib.hid (gfault_shape HSD.out (by rw [HLN.out]; exact of_decide_eq_true HQ.out.symm))
          go_wp2_with fail
          go_ret
          exact ⟨congrArg (fun z => Ending.returned (.int .i64 z)) HE.out.symm, HB.out⟩
      --}
    · --{no
      rw [nsides hsd]
      have HE := Lib.hid (gfault_sides (zs := zs) hsd)
      clear hsd
      go_wp2_with fail
      go_ret
      exact ⟨congrArg (fun z => Ending.returned (.int .i64 z)) HE.out.symm, HB.out⟩
      --}
  end Gs
  end Go.Proofs.YtekoldebcihdoaaDoor
