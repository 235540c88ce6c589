/- WALK: the document's edenref1.Runs. -/
import Derived.Test.YtgagophijmiceaaDoorPwDg
import Derived.Test.YtgagophijmiceaaDoorPwRuns
import Derived.Deep.CutBlock
namespace Go.Proofs.YtgagophijmiceaaDoor
set_option linter.unusedSimpArgs false
set_option linter.unusedVariables false
open Go.RowKit
namespace Pw
open Tld Mem Bl Pn

theorem back_nums {y W H n L M : Nat} (hy : y < H) (hn : n = W * H) (hL : L = M + 1) (hM : L ≤ W) (hW : W ≤ 100) (hH : H ≤ 100) :
    ∃ q s j : Nat, j = y * W + M ∧ j < n ∧ wrap64 ((y : Int) * (W : Int)) = (q : Int) ∧ wrap64 ((q : Int) + (L : Int)) = (s : Int) ∧ wrap64 ((s : Int) - 1) = (j : Int) := by
  have h1 := at_lt (show M < W by omega) hy
  have h2 : W * H ≤ 100 * 100 := Nat.mul_le_mul hW hH
  refine ⟨y * W, y * W + L, y * W + M, rfl, by rw [hn]; exact h1, wr_nat (by push_cast; rfl) (by omega), ?_, ?_⟩
  · generalize y * W = q at *
    exact wr_nat (by push_cast; rfl) (by omega)
  · generalize y * W = q at *
    exact wr_nat (by omega) (by omega)
theorem meas0 {a b : Nat} {x : Int} (e : x = (b : Int)) (h : b < a) : (RowKit.intOf (.int .i64 x)).toNat < (RowKit.intOf (.int .i64 (a : Int))).toNat := by
  subst e
  exact h
theorem bs_len {s : ByteArray} {r T : List UInt8} {N : Nat} (h : s.data.toList ++ r = T) (hT : T.length ≤ N) : s.size ≤ N := by
  have h1 := pre_len h hT
  rw [Array.length_toList] at h1
  exact h1
theorem item_size {n : Nat} (t : UInt8) (h : n ≤ 999) : (ByteArray.mk (item n t).toArray).size ≤ 4 := by
  rw [show (ByteArray.mk (item n t).toArray).size = (item n t).length from by simp [ByteArray.size]]
  exact (item_len t h).2

set_option maxHeartbeats 16000000 in
set_option maxRecDepth 1000000 in
theorem rruns_any (W H : Nat) (a : Option Addr) (n c : Nat) (f : Nat → Nat → Nat) (w : World) (hZ : Ints.Is w a n (flat W H f)) (hn : n = W * H) (hW : W ≤ 100) (hH : H ≤ 100) (hf : ∀ x y, f x y < 2) :
    Calls Tryd.prog 23 #[.agg #[.int .i64 W, .int .i64 H, .slice a n c]] w fun e w' => e = .returned (.string ⟨(runsS W H f).toArray⟩) ∧ Below w.heap.size w w' := by
  have HZ := Lib.hid (fun w2 (h : Below w.heap.size w w2) => hZ.keep h)
  have HN := Lib.hid hn
  have HWB := Lib.hid hW
  have HHB := Lib.hid hH
  have HF := Lib.hid hf
  have HHD := Lib.hid (head_data W H)
  have HCW := Lib.hid (fun w2 => digits_any W (Nat.le_trans hW (by decide)) w2)
  have HCH := Lib.hid (fun w2 => digits_any H (Nat.le_trans hH (by decide)) w2)
  have hsw := dig_size (Nat.le_trans hW (by decide : 100 ≤ 999))
  have hsh := dig_size (Nat.le_trans hH (by decide : 100 ≤ 999))
  generalize ByteArray.mk (Lib.decDigits W).toArray = dw at *
  generalize ByteArray.mk (Lib.decDigits H).toArray = dh at *
  clear hZ hn hW hH hf
  go_enter Tryd.func23, Tryd.ntmps23
  go_upto_region 1 with fail
  have hnew := row_alloc w 35 (boxP W H a n c)
  have HG : Hid (Row (w.alloc (.cells #[.int .i64 W, .int .i64 H, .slice a n c] 35)) w.heap.size 35 (boxP W H a n c)) := hnew
  have HB : Hid (Below w.heap.size w (w.alloc (.cells #[.int .i64 W, .int .i64 H, .slice a n c] 35))) := Lib.hid ((Below.refl _ _).alloc (Nat.le_refl _) _)
  clear hnew
  generalize w.alloc (.cells #[.int .i64 W, .int .i64 H, .slice a n c] 35) = w1 at *
  obtain ⟨gb, hgb⟩ : ∃ gb, gb = w.heap.size := ⟨_, rfl⟩
  rw [← hgb] at HG ⊢
  clear hgb
  have f0 := HG.out.cell 0
  have f1 := HG.out.cell 1
  have f2 := HG.out.cell 2
  unfold boxP at f0 f1 f2
  dsimp only [List.getElem?_cons_succ, List.getElem?_cons_zero] at f0 f1 f2
  go_wp2_with fail
  refine (HCW.out w1).mono ?_
  rintro e2 w2 ⟨rfl, hb2⟩
  have HG := Lib.hid (HG.out.keep hb2 HG.out.lt)
  have HB := Lib.hid (HB.out.trans (hb2.mono HB.out.size))
  clear hb2 HCW f0 f1 f2
  have f0 := HG.out.cell 0
  have f1 := HG.out.cell 1
  have f2 := HG.out.cell 2
  unfold boxP at f0 f1 f2
  dsimp only [List.getElem?_cons_succ, List.getElem?_cons_zero] at f0 f1 f2
  go_wp2_with fail
  refine (HCH.out w2).mono ?_
  rintro e3 w3 ⟨rfl, hb3⟩
  have HG := Lib.hid (HG.out.keep hb3 HG.out.lt)
  have HB := Lib.hid (HB.out.trans (hb3.mono HB.out.size))
  clear hb3 HCH f0 f1 f2
  go_upto_region 3 with fail
  go_cut [5] (fun v5 wx => (∃ s0 : ByteArray, v5 = .string s0 ∧ s0.data.toList = headS W H) ∧ w3 = wx)
  case first =>
    go_wp2_with fail
    go_meet
    case rel => exact ⟨⟨_, rfl, HHD.out⟩, rfl⟩
  case rest =>
  clear hsw hsh HHD
  obtain ⟨⟨s0, rfl, hs0⟩, rfl⟩ := hcut
  have HS0 := Lib.hid hs0
  clear hs0
  go_wp2_with fail
  go_loopw [5, 6, 7] (fun v5 v6 v7 wr => ∃ r ap : Nat, ∃ s : ByteArray, r ≤ H ∧ v7 = .int .i64 ((r : Nat) : Int) ∧ v6 = .int .i64 ((ap : Nat) : Int) ∧ v5 = .string s ∧ ap ≤ r ∧ s.data.toList ++ rowsR f W (H - r) r ap = runsS W H f ∧ Row wr gb 35 (boxP W H a n c) ∧ Below w.heap.size w wr) (fun _ _ v _ => H - (RowKit.intOf v).toNat)
  case atStart => exact ⟨0, 0, s0, Nat.zero_le _, rfl, rfl, rfl, Nat.le_refl _, by rw [HS0.out]; rfl, HG.out, HB.out⟩
  case round =>
    clear HG HB HS0
    obtain ⟨r, ap, s, hr, rfl, rfl, rfl, hap, htot, hg, hb⟩ := hrel
    have HG := Lib.hid hg
    have HB := Lib.hid hb
    have HAP := Lib.hid hap
    have HTOT := Lib.hid htot
    clear hg hb hap htot
    have f0 := HG.out.cell 0
    have f1 := HG.out.cell 1
    have f2 := HG.out.cell 2
    unfold boxP at f0 f1 f2
    dsimp only [List.getElem?_cons_succ, List.getElem?_cons_zero] at f0 f1 f2
    by_cases hrH : r < H
    · have hr2 : (r : Int) < (H : Int) := by omega
      have HRH := Lib.hid hrH
      obtain ⟨g, hg⟩ : ∃ g : Nat → Nat, g = fun x => f x r := ⟨_, rfl⟩
      have HGF := Lib.hid hg
      clear hg
      obtain ⟨L, hL⟩ : ∃ L, L = tlen g W := ⟨_, rfl⟩
      have HL := Lib.hid hL
      clear hL
      go_upto_block 2 with fail
      go_cut [8] (fun v8 wx => v8 = .int .i64 ((L : Nat) : Int) ∧ wr = wx)
      case first =>
        go_wp2_with fail
        go_loopw [8] (fun v8 wx => (∃ M : Nat, v8 = .int .i64 ((M : Nat) : Int) ∧ M ≤ W ∧ tlen g M = L) ∧ wr = wx) (fun v _ => (RowKit.intOf v).toNat)
        case atStart => exact ⟨⟨W, rfl, Nat.le_refl _, HL.out.symm⟩, rfl⟩
        case round =>
          obtain ⟨⟨M, rfl, hMW, hML⟩, rfl⟩ := hrel
          by_cases hM0 : M = 0
          · subst hM0
            have HZL : Hid (0 = L) := Lib.hid hML
            clear hMW hML
            go_wp2_with fail
            go_meet
            case rel => exact ⟨by first | rw [← HZL.out] | (rw [← HZL.out]; rfl), rfl⟩
          · obtain ⟨M', hM0⟩ : ∃ M', M = M' + 1 := ⟨M - 1, by omega⟩
            obtain ⟨q, s1, j, hj, hjn, e1, e2, e3⟩ := back_nums hrH HN.out hM0 hMW HWB.out HHB.out
            obtain ⟨ab, ao, rfl, _, cg⟩ := (HZ.out wr HB.out).cells j hjn
            dsimp only at cg
            have hM2 : M' < W := by clear e1 e2 e3; omega
            rw [hj, flat_at hM2 hrH, ← hj] at cg
            obtain ⟨gv, hgv⟩ : ∃ gv, gv = f M' r := ⟨_, rfl⟩
            rw [← hgv] at cg
            have HGV : Hid (gv = g M') := Lib.hid (by rw [hgv, HGF.out])
            have hm0 : (0 : Int) < (M : Int) := by clear e1 e2 e3; omega
            have hm1 : M' < M := by clear e1 e2 e3; omega
            have hji : (j : Int) < (n : Int) := Int.ofNat_lt.2 hjn
            have E1 : Hid (wrap64 ((M : Int) - 1) = (M' : Int)) := Lib.hid (by clear e1 e2 e3; exact wr_nat (by omega) (by have := HWB.out; omega))
            have HM := Lib.hid hM0
            have HMW := Lib.hid hMW
            have HM1 := Lib.hid hm1
            clear hM0 hMW hj hgv hM2 hm1
            by_cases hz : gv = 0
            · subst hz
              have HNX : Hid (tlen g M' = L) := Lib.hid (by rw [← hML, HM.out, tlen, if_pos HGV.out.symm])
              clear hML
              go_wp2_with fail
              clear e1 e2 e3
              go_roundw
              case rel => exact ⟨⟨M', congrArg (Value.int .i64) E1.out, Nat.le_trans (Nat.le_of_lt HM1.out) HMW.out, HNX.out⟩, trivial⟩
              case measure => exact meas0 E1.out HM1.out
            · have hz2 : ¬ (gv : Int) = 0 := by clear e1 e2 e3; omega
              have hz3 : ((gv : Int) == 0) = false := by rw [beq_eq_false_iff_ne]; exact hz2
              have HNX : Hid (M = L) := Lib.hid (by rw [← hML, HM.out, tlen, if_neg (by rw [← HGV.out]; exact hz)])
              clear hML hz
              go_wp2_with fail
              clear e1 e2 e3
              go_meet
              case rel => exact ⟨by rw [HNX.out], rfl⟩
      case rest =>
      obtain ⟨rfl, rfl⟩ := hcut
      have HLW : Hid (L ≤ W) := Lib.hid (by rw [HL.out]; exact tlen_le _ _)
      have HTOT2 : Hid (s.data.toList ++ ((if L = 0 then [] else item ap 36) ++ (itR g 0 L ++ rowsR f W (H - (r + 1)) (r + 1) ((if L = 0 then ap else 0) + 1))) = runsS W H f) := Lib.hid (by
        have h1 := HTOT.out
        rw [show H - r = (H - (r + 1)) + 1 by have := HRH.out; omega, rowsR_next, ← HGF.out, ← HL.out] at h1
        exact h1)
      have hsz := bs_len HTOT.out (runsS_len HWB.out HHB.out)
      clear HTOT
      obtain ⟨ap1, hap1⟩ : ∃ ap1, ap1 = if L = 0 then ap else 0 := ⟨_, rfl⟩
      rw [← hap1] at HTOT2
      have HAP1 := Lib.hid hap1
      clear hap1
      go_upto_if 54 with fail
      go_cut [5, 6, 9] (fun v5 v6 _ wx => v6 = .int .i64 ((ap1 : Nat) : Int) ∧ (∃ s1 : ByteArray, v5 = .string s1 ∧ s1.data.toList ++ (itR g 0 L ++ rowsR f W (H - (r + 1)) (r + 1) (ap1 + 1)) = runsS W H f) ∧ Row wx gb 35 (boxP W H a n c) ∧ Below w.heap.size w wx)
      case first =>
        by_cases hL0 : L = 0
        · subst hL0
          have HE1 : Hid (ap1 = ap) := Lib.hid (by rw [HAP1.out, if_pos rfl])
          have HT3 : Hid (s.data.toList ++ (itR g 0 0 ++ rowsR f W (H - (r + 1)) (r + 1) (ap1 + 1)) = runsS W H f) := Lib.hid (by have h := HTOT2.out; rw [if_pos rfl, List.nil_append] at h; exact h)
          go_wp2_with fail
          go_meet
          case rel => exact ⟨by rw [HE1.out], ⟨s, rfl, HT3.out⟩, HG.out, HB.out⟩
        · have hL1 : (0 : Int) < (L : Int) := by omega
          have HE1 : Hid (ap1 = 0) := Lib.hid (by rw [HAP1.out, if_neg hL0])
          have hap9 : ap ≤ 999 := by have := HAP.out; have := HRH.out; have := HHB.out; omega
          have HCI := Lib.hid (times_any ap 36 hap9 wr)
          have hit := item_size 36 hap9
          have HT3 : Hid ((s ++ ByteArray.mk (item ap 36).toArray).data.toList ++ (itR g 0 L ++ rowsR f W (H - (r + 1)) (r + 1) (ap1 + 1)) = runsS W H f) := Lib.hid (by have h := HTOT2.out; rw [if_neg hL0] at h; rw [← h]; simp)
          generalize ByteArray.mk (item ap 36).toArray = it at *
          clear hL0 hap9
          go_wp2_with fail
          refine HCI.out.mono ?_
          rintro e7 w7 ⟨rfl, hb7⟩
          have HG7 := Lib.hid (HG.out.keep hb7 HG.out.lt)
          have HB7 := Lib.hid (HB.out.trans (hb7.mono HB.out.size))
          clear hb7 HCI
          go_wp2_with fail
          go_meet
          case rel => exact ⟨by rw [HE1.out]; rfl, ⟨_, rfl, HT3.out⟩, HG7.out, HB7.out⟩
      case rest =>
      clear HG HB HTOT2 hsz f0 f1 f2
      obtain ⟨rfl, ⟨s1, rfl, htt⟩, hg, hb⟩ := hcut
      have HG := Lib.hid hg
      have HB := Lib.hid hb
      have HTT := Lib.hid htt
      clear hg hb htt
      go_upto_block 4 with fail
      go_cut [5, 10, 11, 12, 13, 14] (fun v5 _ _ _ _ _ wx => (∃ s2 : ByteArray, v5 = .string s2 ∧ s2.data.toList ++ rowsR f W (H - (r + 1)) (r + 1) (ap1 + 1) = runsS W H f) ∧ Row wx gb 35 (boxP W H a n c) ∧ Below w.heap.size w wx)
      case first =>
        go_wp2_with fail
        go_loopw [5, 10] (fun v5 v10 wx => ∃ x : Nat, ∃ s2 : ByteArray, v5 = .string s2 ∧ v10 = .int .i64 ((x : Nat) : Int) ∧ x ≤ L ∧ s2.data.toList ++ (itR g x L ++ rowsR f W (H - (r + 1)) (r + 1) (ap1 + 1)) = runsS W H f ∧ Row wx gb 35 (boxP W H a n c) ∧ Below w.heap.size w wx) (fun _ v _ => L - (RowKit.intOf v).toNat)
        case atStart => exact ⟨0, s1, rfl, rfl, Nat.zero_le _, HTT.out, HG.out, HB.out⟩
        case round =>
          clear HG HB HTT
          obtain ⟨x, s2, rfl, rfl, hxL, htt, hg, hb⟩ := hrel
          have HG := Lib.hid hg
          have HB := Lib.hid hb
          have HTT := Lib.hid htt
          have HXE := Lib.hid hxL
          clear hg hb htt hxL
          have f0 := HG.out.cell 0
          have f1 := HG.out.cell 1
          have f2 := HG.out.cell 2
          unfold boxP at f0 f1 f2
          dsimp only [List.getElem?_cons_succ, List.getElem?_cons_zero] at f0 f1 f2
          by_cases hx : x < L
          · have hxi : (x : Int) < (L : Int) := by omega
            have HXL := Lib.hid hx
            have hxW : x < W := by have := HLW.out; omega
            have HNX : Hid (itR g x L = item (runl g (g x) (L - x) x) (tag (g x)) ++ itR g (x + runl g (g x) (L - x) x) L) := Lib.hid (itR_next hx)
            have HRP : Hid (0 < runl g (g x) (L - x) x ∧ runl g (g x) (L - x) x ≤ L - x) := Lib.hid ⟨runl_pos hx, runl_le _ _ _ _⟩
            have HSM := Lib.hid (runl_same g (g x) (L - x) x)
            have HST := Lib.hid (runl_stop g (g x) (L - x) x)
            obtain ⟨R, hR⟩ : ∃ R, R = runl g (g x) (L - x) x := ⟨_, rfl⟩
            rw [← hR] at HNX HRP HSM HST
            clear hR
            obtain ⟨cv, hcv⟩ : ∃ cv, cv = g x := ⟨_, rfl⟩
            rw [← hcv] at HNX HSM HST
            obtain ⟨q, k, hq, hk, hkn, e1, e2, _⟩ := draw_nums hxW hrH HN.out HWB.out HHB.out
            obtain ⟨ab, ao, rfl, hbl, cg⟩ := (HZ.out wr HB.out).cells k hkn
            dsimp only at cg
            rw [hk, flat_at hxW hrH, ← hk, show f x r = g x by rw [HGF.out], ← hcv] at cg
            have hki : (k : Int) < (n : Int) := Int.ofNat_lt.2 hkn
            have HCV := Lib.hid hcv
            have HTG : Hid (cv < 2) := Lib.hid (by rw [HCV.out, HGF.out]; exact HF.out _ _)
            clear hcv hk hq hx hxW
            go_upto_block 6 with fail
            clear e1 e2 cg hki hkn hbl
            try generalize decide (x < L) = q62 at *
            try generalize decide ((x : Int) < (L : Int)) = q62 at *
            clear hxi
            go_cut [10, 11] (fun v10 v11 wx => v10 = .int .i64 ((x + R : Nat) : Int) ∧ v11 = .int .i64 ((R : Nat) : Int) ∧ wr = wx)
            case first =>
              go_wp2_with fail
              go_loopw [10, 11] (fun v10 v11 wx => (∃ m : Nat, v10 = .int .i64 ((x + m : Nat) : Int) ∧ v11 = .int .i64 ((m : Nat) : Int) ∧ m ≤ R) ∧ wr = wx) (fun _ v _ => R - (RowKit.intOf v).toNat)
              case atStart => exact ⟨⟨0, rfl, rfl, Nat.zero_le _⟩, rfl⟩
              case round =>
                obtain ⟨⟨m, rfl, rfl, hmR⟩, rfl⟩ := hrel
                have HMR := Lib.hid hmR
                obtain ⟨z, hz⟩ : ∃ z, z = x + m := ⟨_, rfl⟩
                rw [← hz]
                have HZX := Lib.hid hz
                by_cases hmM : z < L
                · have hmi : (z : Int) < (L : Int) := by omega
                  have hzW : z < W := by have := HLW.out; omega
                  obtain ⟨q, k, hq, hk, hkn, e1, e2, e3⟩ := draw_nums hzW hrH HN.out HWB.out HHB.out
                  obtain ⟨ab2, ao2, hab, _, cg⟩ := (HZ.out wr HB.out).cells k hkn
                  cases hab
                  dsimp only at cg
                  rw [hk, flat_at hzW hrH, ← hk, show f z r = g z by rw [HGF.out]] at cg
                  obtain ⟨gm, hgm⟩ : ∃ gm, gm = g z := ⟨_, rfl⟩
                  rw [← hgm] at cg
                  have hki : (k : Int) < (n : Int) := Int.ofNat_lt.2 hkn
                  have HZL := Lib.hid hmM
                  have HGM := Lib.hid hgm
                  have E3 := Lib.hid e3
                  clear hgm hk hq hzW hz e3 hmR
                  by_cases hlt : m < R
                  · have hce : gm = cv := by rw [HGM.out, HZX.out]; exact HSM.out m hlt
                    subst hce
                    have HLT := Lib.hid hlt
                    have E4 : Hid (wrap64 ((m : Int) + 1) = ((m + 1 : Nat) : Int)) := Lib.hid (by clear e1 e2; exact wr_nat (by push_cast; rfl) (by have := HZX.out; have := HLW.out; have := HWB.out; omega))
                    have E5 : Hid (((z + 1 : Nat) : Int) = ((x + (m + 1) : Nat) : Int)) := Lib.hid (by rw [HZX.out]; rfl)
                    clear hlt hmM
                    go_wp2_with fail
                    clear e1 e2
                    go_roundw
                    case rel => exact ⟨⟨m + 1, congrArg (Value.int .i64) (E3.out.trans E5.out), congrArg (Value.int .i64) E4.out, HLT.out⟩, trivial⟩
                    case measure => exact meas E4.out (by have := HLT.out; omega)
                  · have hmR : m = R := by have := HMR.out; clear e1 e2; omega
                    have hne : gm ≠ cv := by rw [HGM.out, HZX.out, hmR]; exact HST.out (by have := HZX.out; have := HZL.out; clear e1 e2; omega)
                    have hnei : ¬ (gm : Int) = (cv : Int) := by clear e1 e2; omega
                    have hneb : ((gm : Int) == (cv : Int)) = false := by rw [beq_eq_false_iff_ne]; exact hnei
                    have HMRe := Lib.hid hmR
                    clear hlt hmM hmR hne
                    go_wp2_with fail
                    clear e1 e2
                    go_meet
                    case rel => exact ⟨by rw [HZX.out, HMRe.out], by rw [HMRe.out], rfl⟩
                · have hmi : ¬ (z : Int) < (L : Int) := by omega
                  have hmR2 : m = R := by have := HRP.out.2; have := HXL.out; omega
                  have HMRe := Lib.hid hmR2
                  clear hmM hmR hz hmR2
                  go_wp2_with fail
                  go_meet
                  case rel => exact ⟨by rw [HZX.out, HMRe.out], by rw [HMRe.out], rfl⟩
            case rest =>
            obtain ⟨rfl, rfl, rfl⟩ := hcut
            have hR9 : R ≤ 999 := by have := HRP.out; have := HLW.out; have := HWB.out; omega
            have HCT := Lib.hid (fun w2 (hb : Below w.heap.size w w2) => times_any R (tag cv) hR9 w2)
            have hit := item_size (tag cv) hR9
            have hs2 := bs_len HTT.out (runsS_len HWB.out HHB.out)
            have HTT2 : Hid ((s2 ++ ByteArray.mk (item R (tag cv)).toArray).data.toList ++ (itR g (x + R) L ++ rowsR f W (H - (r + 1)) (r + 1) (ap1 + 1)) = runsS W H f) := Lib.hid (by have h := HTT.out; rw [HNX.out] at h; rw [← h]; simp)
            generalize ByteArray.mk (item R (tag cv)).toArray = it at *
            have HXR : Hid (x + R ≤ L) := Lib.hid (by have := HRP.out; have := HXL.out; omega)
            have hcv2 : cv = 0 ∨ cv = 1 := by have := HTG.out; omega
            clear hR9
            rcases hcv2 with hcv2 | hcv2
            · subst hcv2
              have HCT : Hid (∀ w2, Below w.heap.size w w2 → Calls Tryd.prog 52 #[.int .i64 R, .string ⟨#[98]⟩] w2 fun e w' => e = .returned (.string it) ∧ Below w2.heap.size w2 w') := HCT
              go_wp2_with fail
              refine (HCT.out wr HB.out).mono ?_
              rintro e7 w7 ⟨rfl, hb7⟩
              have HG7 := Lib.hid (HG.out.keep hb7 HG.out.lt)
              have HB7 := Lib.hid (HB.out.trans (hb7.mono HB.out.size))
              clear hb7 HCT
              go_wp2_with fail
              go_roundw
              case rel => exact ⟨x + R, _, rfl, rfl, HXR.out, HTT2.out, HG7.out, HB7.out⟩
              case measure => show L - ((x + R : Nat) : Int).toNat < L - ((x : Nat) : Int).toNat; rw [Int.toNat_natCast, Int.toNat_natCast]; have := HXL.out; have := HRP.out; omega
            · subst hcv2
              have HCT : Hid (∀ w2, Below w.heap.size w w2 → Calls Tryd.prog 52 #[.int .i64 R, .string ⟨#[111]⟩] w2 fun e w' => e = .returned (.string it) ∧ Below w2.heap.size w2 w') := HCT
              go_wp2_with fail
              refine (HCT.out wr HB.out).mono ?_
              rintro e7 w7 ⟨rfl, hb7⟩
              have HG7 := Lib.hid (HG.out.keep hb7 HG.out.lt)
              have HB7 := Lib.hid (HB.out.trans (hb7.mono HB.out.size))
              clear hb7 HCT
              go_wp2_with fail
              go_roundw
              case rel => exact ⟨x + R, _, rfl, rfl, HXR.out, HTT2.out, HG7.out, HB7.out⟩
              case measure => show L - ((x + R : Nat) : Int).toNat < L - ((x : Nat) : Int).toNat; rw [Int.toNat_natCast, Int.toNat_natCast]; have := HXL.out; have := HRP.out; omega
          · have hxi : ¬ (x : Int) < (L : Int) := by omega
            have HEND : Hid (itR g x L = []) := Lib.hid (itR_end (by omega))
            clear hx
            go_wp2_with fail
            go_meet
            case rel => exact ⟨⟨s2, rfl, by have h := HTT.out; rw [HEND.out, List.nil_append] at h; exact h⟩, HG.out, HB.out⟩
      case rest =>
      clear HG HB HTT
      obtain ⟨⟨s2, rfl, htt⟩, hg, hb⟩ := hcut
      have HG := Lib.hid hg
      have HB := Lib.hid hb
      have HTT := Lib.hid htt
      have HAP4 : Hid (ap1 ≤ r) := Lib.hid (by rw [HAP1.out]; have := HAP.out; split <;> omega)
      have E1 : Hid (wrap64 ((ap1 : Int) + 1) = ((ap1 + 1 : Nat) : Int)) := Lib.hid (wr_nat (by push_cast; rfl) (by have := HAP4.out; have := HRH.out; have := HHB.out; omega))
      have E2 : Hid (wrap64 ((r : Int) + 1) = ((r + 1 : Nat) : Int)) := Lib.hid (wr_nat (by push_cast; rfl) (by have := HRH.out; have := HHB.out; omega))
      clear hg hb htt
      go_wp2_with fail
      go_roundw
      case rel => exact ⟨r + 1, ap1 + 1, s2, HRH.out, congrArg (Value.int .i64) E2.out, congrArg (Value.int .i64) E1.out, rfl, Nat.succ_le_succ HAP4.out, HTT.out, HG.out, HB.out⟩
      case measure => exact meas E2.out (by have := HRH.out; omega)
    · have hnl : ¬ (r : Int) < (H : Int) := by omega
      have HTE : Hid ((s ++ ByteArray.mk #[33, 10]) = ⟨(runsS W H f).toArray⟩) := Lib.hid (by
        have h := HTOT.out
        rw [show H - r = 0 by omega] at h
        apply ByteArray.ext
        rw [← h]
        simp [rowsR])
      have hsz := bs_len HTOT.out (runsS_len HWB.out HHB.out)
      clear hrH HTOT
      go_wp2_with fail
      go_ret
      exact ⟨by rw [HTE.out]; rfl, HB.out⟩
end Pw
end Go.Proofs.YtgagophijmiceaaDoor
