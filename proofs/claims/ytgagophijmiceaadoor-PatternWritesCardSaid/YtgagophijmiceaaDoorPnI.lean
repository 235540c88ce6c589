/- WALK: the document's edenref1.Trim. -/
import Derived.Test.YtgagophijmiceaaDoorPnE
namespace Go.Proofs.YtgagophijmiceaaDoor
set_option linter.unusedSimpArgs false
set_option linter.unusedVariables false
open Go.RowKit
namespace Pn
open Tld Mem Bl

set_option maxHeartbeats 16000000 in
set_option maxRecDepth 1000000 in
theorem dtrim_any (W H : Nat) (a : Option Addr) (n c : Nat) (f : Nat → Nat → Nat) (w : World) (hZ : Ints.Is w a n (flat W H f)) (hn : n = W * H) (hW : W ≤ 200) (hH : H ≤ 200) (hf : ∀ x y, f x y < 2) :
    Calls Tryd.prog 25 #[.agg #[.int .i64 W, .int .i64 H, .slice a n c]] w fun e w' => (∃ W' H' X Y : Nat, ∃ a' n' c', e = .returned (.tuple #[pat W' H' a' n' c', .int .i64 X, .int .i64 Y]) ∧ ∃ f', Trimmed W H f W' H' f' X Y ∧ n' = W' * H' ∧ n' ≤ c' ∧ Ints.Is w' a' n' (flat W' H' f') ∧ (∀ b o, a' = some ⟨b, o, none⟩ → w.heap.size ≤ b)) ∧ Below w.heap.size w w' := by
  have HZ := Lib.hid (fun w2 (h : Below w.heap.size w w2) => hZ.keep h)
  have hn2 : n ≤ 40000 := by rw [hn]; exact Nat.mul_le_mul hW hH
  have HN := Lib.hid hn
  have HWB := Lib.hid hW
  have HHB := Lib.hid hH
  have HF := Lib.hid hf
  clear hZ hn hW hH hf
  unfold pat
  go_enter Tryd.func25, Tryd.ntmps25
  go_upto_region 1 with fail
  obtain ⟨hr2, hr3, hb2⟩ := two_new w 35 35 (boxP W H a n c) noPat
  have HG : Hid (Row ((w.alloc (.cells #[.int .i64 W, .int .i64 H, .slice a n c] 35)).alloc (.cells #[.int .i64 0, .int .i64 0, .slice none 0 0] 35)) w.heap.size 35 (boxP W H a n c)) := hr2
  have HR : Hid (Row ((w.alloc (.cells #[.int .i64 W, .int .i64 H, .slice a n c] 35)).alloc (.cells #[.int .i64 0, .int .i64 0, .slice none 0 0] 35)) (w.heap.size + 1) 35 noPat) := hr3
  have HB : Hid (Below w.heap.size w ((w.alloc (.cells #[.int .i64 W, .int .i64 H, .slice a n c] 35)).alloc (.cells #[.int .i64 0, .int .i64 0, .slice none 0 0] 35))) := hb2
  clear hr2 hr3 hb2
  generalize (w.alloc (.cells #[.int .i64 W, .int .i64 H, .slice a n c] 35)).alloc (.cells #[.int .i64 0, .int .i64 0, .slice none 0 0] 35) = w1 at *
  obtain ⟨gb, hgb⟩ : ∃ gb, gb = w.heap.size := ⟨_, rfl⟩
  rw [← hgb] at HG HR ⊢
  obtain ⟨rb, hrb⟩ : ∃ rb, rb = gb + 1 := ⟨_, rfl⟩
  rw [← hrb] at HR ⊢
  have HRB : Hid (w.heap.size ≤ rb) := Lib.hid (by omega)
  clear hrb hgb
  have f0 := HG.out.cell 0
  have f1 := HG.out.cell 1
  have f2 := HG.out.cell 2
  unfold boxP at f0 f1 f2
  dsimp only [List.getElem?_cons_succ, List.getElem?_cons_zero] at f0 f1 f2
  go_wp2_with fail
  go_loop [5, 6, 7, 8, 9] (fun vl vr vt vb v => ∃ j : Nat, ∃ l r t b : Int, j ≤ H ∧ v = .int .i64 ((j : Nat) : Int) ∧ vl = .int .i64 l ∧ vr = .int .i64 r ∧ vt = .int .i64 t ∧ vb = .int .i64 b ∧ BB W H f (j * W) l t r b) (fun _ _ _ _ v => H - (RowKit.intOf v).toNat)
  case atStart => exact ⟨0, W, -1, H, -1, Nat.zero_le _, rfl, rfl, rfl, rfl, rfl, by rw [Nat.zero_mul]; exact BB.zero⟩
  case round =>
    obtain ⟨j, l, r, t, b, hj, rfl, rfl, rfl, rfl, rfl, hbb⟩ := hrel
    have HBB := Lib.hid hbb
    clear hbb
    by_cases hjH : j < H
    · have hj2 : (j : Int) < (H : Int) := by omega
      have HJH := Lib.hid hjH
      go_wp2_with fail
      clear hj2
      go_loop [5, 6, 7, 8, 10] (fun vl vr vt vb v => ∃ i : Nat, ∃ l r t b : Int, i ≤ W ∧ v = .int .i64 ((i : Nat) : Int) ∧ vl = .int .i64 l ∧ vr = .int .i64 r ∧ vt = .int .i64 t ∧ vb = .int .i64 b ∧ BB W H f (j * W + i) l t r b) (fun _ _ _ _ v => W - (RowKit.intOf v).toNat)
      case atStart => exact ⟨0, l, r, t, b, Nat.zero_le _, rfl, rfl, rfl, rfl, rfl, by rw [Nat.add_zero]; exact HBB.out⟩
      case round =>
        clear HBB
        obtain ⟨i, l, r, t, b, hi, rfl, rfl, rfl, rfl, rfl, hbb⟩ := hrel
        have HBB := Lib.hid hbb
        clear hbb
        by_cases hiW : i < W
        · have hi2 : (i : Int) < (W : Int) := by omega
          have HIW := Lib.hid hiW
          have hk0 := at_lt hiW hjH
          obtain ⟨k, hk⟩ : ∃ k, k = j * W + i := ⟨_, rfl⟩
          rw [← hk, ← HN.out] at hk0
          rw [← hk] at HBB
          obtain ⟨q, hq⟩ : ∃ q, q = j * W := ⟨_, rfl⟩
          have hkq : k = q + i := by rw [hq]; exact hk
          obtain ⟨cv, hcv⟩ : ∃ cv, cv = f i j := ⟨_, rfl⟩
          have hcv2 : cv < 2 := by rw [hcv]; exact HF.out _ _
          obtain ⟨ab, ao, rfl, _, cg⟩ := (HZ.out w1 HB.out).cells k hk0
          dsimp only at cg
          rw [hk, flat_at hiW hjH, ← hk, ← hcv] at cg
          have HMD : Hid (k % W = i ∧ k / W = j) := Lib.hid (by rw [hk]; exact ⟨at_mod hiW, at_div hiW⟩)
          have HJI : Hid (j * W + (i + 1) = k + 1) := Lib.hid (by omega)
          have hWn := HWB.out
          have hHn := HHB.out
          have hki : (k : Int) < (n : Int) := Int.ofNat_lt.2 hk0
          have HIN : Hid (i + 1 ≤ W ∧ ((.int .i64 (((i + 1 : Nat) : Int)) : Value) = .int .i64 ((i + 1 : Nat) : Int)) ∧ W - (((i + 1 : Nat) : Int)).toNat < W - ((i : Nat) : Int).toNat) := Lib.hid ⟨hiW, rfl, by rw [Int.toNat_natCast, Int.toNat_natCast]; omega⟩
          have e1 : wrap64 ((j : Int) * (W : Int)) = (q : Int) := wr_nat (by rw [hq]; push_cast; rfl) (by omega)
          have e2 : wrap64 ((q : Int) + (i : Int)) = (k : Int) := wr_nat (by clear e1; omega) (by clear e1; omega)
          have e3 : wrap64 ((i : Int) + 1) = ((i + 1 : Nat) : Int) := wr_nat (by push_cast; rfl) (by clear e1 e2; omega)
          have e1' := wr_same e1
          have e2' := wr_same e2
          have e3' := wr_same e3
          have HCV := Lib.hid hcv
          clear hk hk0 hq hkq hWn hHn hcv
          by_cases hc1 : cv = 1
          · subst hc1
            have HBL : Hid (BB W H f (j * W + (i + 1)) (min l i) (min t j) (max r i) (max b j)) := Lib.hid (by
              rw [HJI.out]
              exact HBB.out.live (by rw [HMD.out.1, HMD.out.2, ← HCV.out]; decide) HMD.out.1.symm HMD.out.2.symm HIW.out HJH.out)
            clear hcv2 hiW hjH
            by_cases h1 : (i : Int) < l
            all_goals
              by_cases h2 : r < (i : Int)
              all_goals
                by_cases h3 : (j : Int) < t
                all_goals
                  by_cases h4 : b < (j : Int)
                  all_goals
                    first | rw [Int.min_eq_right (Int.le_of_lt h1)] at HBL | rw [Int.min_eq_left (Int.not_lt.1 h1)] at HBL
                    first | rw [Int.max_eq_right (Int.le_of_lt h2)] at HBL | rw [Int.max_eq_left (Int.not_lt.1 h2)] at HBL
                    first | rw [Int.min_eq_right (Int.le_of_lt h3)] at HBL | rw [Int.min_eq_left (Int.not_lt.1 h3)] at HBL
                    first | rw [Int.max_eq_right (Int.le_of_lt h4)] at HBL | rw [Int.max_eq_left (Int.not_lt.1 h4)] at HBL
                    go_wp2_with fail
                    go_round
                    case rel => exact ⟨i + 1, _, _, _, _, HIW.out, rfl, rfl, rfl, rfl, rfl, HBL.out⟩
                    case measure => exact HIN.out.2.2
          · obtain rfl : cv = 0 := by omega
            have HBL : Hid (BB W H f (j * W + (i + 1)) l t r b) := Lib.hid (by
              rw [HJI.out]
              exact HBB.out.dead (by rw [HMD.out.1, HMD.out.2, ← HCV.out]))
            clear hcv2 hc1 hiW hjH
            go_wp2_with fail
            go_round
            case rel => exact ⟨i + 1, _, _, _, _, HIW.out, rfl, rfl, rfl, rfl, rfl, HBL.out⟩
            case measure => exact HIN.out.2.2
        · obtain rfl : i = W := by omega
          have hi2 : ¬ (i : Int) < (i : Int) := by omega
          have hjn : wrap64 ((j : Int) + 1) = ((j + 1 : Nat) : Int) := wr_nat (by push_cast; rfl) (by have := HHB.out; omega)
          have hjn' := wr_same hjn
          have HJM : Hid (H - (((j + 1 : Nat) : Int)).toNat < H - ((j : Nat) : Int).toNat) := Lib.hid (by
            rw [Int.toNat_natCast, Int.toNat_natCast]
            clear hjn hjn'
            omega)
          go_wp2_with fail
          go_round
          case rel => exact ⟨j + 1, l, r, t, b, HJH.out, rfl, rfl, rfl, rfl, rfl, by rw [Nat.succ_mul]; exact HBB.out⟩
          case measure => exact HJM.out
    · obtain rfl : j = H := by omega
      have hj2 : ¬ (j : Int) < (j : Int) := by omega
      have HBW := Lib.hid ((show BB W j f (W * j) l t r b by rw [Nat.mul_comm]; exact HBB.out))
      clear hjH hj
      by_cases hr0 : r < 0
      · have HNO := Lib.hid (HBW.out.none hr0)
        go_wp2_with (refine Ops.wpList_store_arr rfl 35 _ _ rfl rb rfl 35 _ noPat rfl HR.out rfl infoPat noPat_one ?_; intro w5 hrow5 hon5)
        refine bodyPost_ret (results_pat3 (t := 2) (u := 3) (v := 4) (e := .int .i64 0) (f := .int .i64 0) rfl _ _ hrow5 rfl rfl rfl rfl) rfl ⟨⟨0, 0, 0, 0, none, 0, 0, rfl, fun _ _ => 0, .inl ⟨rfl, rfl, rfl, rfl, HNO.out⟩, rfl, Nat.zero_le _, ⟨by rw [flat_len], fun i hi => absurd hi (Nat.not_lt_zero _), Nat.zero_le _⟩, fun b o e => by cases e⟩, HB.out.trans (hon5.below HRB.out)⟩
      · obtain ⟨l', t', r', b', rfl, rfl, rfl, rfl, hgb⟩ := HBW.out.box hr0
        have HGX := Lib.hid hgb
        have HLR := Lib.hid hgb.lr
        have HTB := Lib.hid hgb.tb
        obtain ⟨w', hw'⟩ : ∃ w', w' = r' - l' + 1 := ⟨_, rfl⟩
        obtain ⟨h', hh'⟩ : ∃ h', h' = b' - t' + 1 := ⟨_, rfl⟩
        have hW3 := HWB.out
        have hH3 := HHB.out
        have hlr := HLR.out
        have htb := HTB.out
        obtain ⟨p1, hp1⟩ : ∃ p1, p1 = r' - l' := ⟨_, rfl⟩
        obtain ⟨p2, hp2⟩ : ∃ p2, p2 = b' - t' := ⟨_, rfl⟩
        have hp12 : p1 ≤ 200 ∧ p2 ≤ 200 ∧ w' ≤ 200 ∧ h' ≤ 200 := by omega
        have HP12 := Lib.hid hp12
        have a1 : wrap64 ((r' : Int) - (l' : Int)) = (p1 : Int) := wr_nat (by omega) (by omega)
        have a2 : wrap64 ((b' : Int) - (t' : Int)) = (p2 : Int) := wr_nat (by clear a1; omega) (by clear a1; omega)
        have a3 : wrap64 ((p1 : Int) + 1) = (w' : Int) := wr_nat (by clear a1 a2; omega) (by clear a1 a2; omega)
        have a4 : wrap64 ((p2 : Int) + 1) = (h' : Int) := wr_nat (by clear a1 a2 a3; omega) (by clear a1 a2 a3; omega)
        have HWE := Lib.hid hw'
        have HHE := Lib.hid hh'
        have hr1 : ¬ (r' : Int) < 0 := hr0
        obtain ⟨F, hF⟩ : ∃ F : Nat → Nat, F = fun k => f (l' + k % w') (t' + k / w') := ⟨_, rfl⟩
        have HFE := Lib.hid hF
        have hl3 := HG.out.lt
        have hl4 := HR.out.lt
        have hq0 : Row (w1.alloc (.cells #[.int .i64 (w' : Nat), .int .i64 (h' : Nat), .slice none 0 0] 35)) w1.heap.size 35 (boxP (w' : Nat) (h' : Nat) none 0 0) := row_alloc w1 _ _
        have hb4 : Below w1.heap.size w1 (w1.alloc (.cells #[.int .i64 (w' : Nat), .int .i64 (h' : Nat), .slice none 0 0] 35)) := (Below.refl _ _).alloc (Nat.le_refl _) _
        have hbs := HB.out.size
        have HT : Hid (TSt w (w1.alloc (.cells #[.int .i64 (w' : Nat), .int .i64 (h' : Nat), .slice none 0 0] 35)) gb gb rb w1.heap.size 35 35 35 (boxP W j a n c) (boxP W j a n c) noPat (w' : Nat) (h' : Nat) F (0 * w') (.slice none 0 0)) := Lib.hid ⟨HG.out.keep hb4 hl3, HG.out.keep hb4 hl3, HR.out.keep hb4 hl4, hq0, by rw [Nat.zero_mul, lstN_zero]; exact own_nil _ _, HB.out.trans (hb4.mono hbs), ⟨hbs, by omega, by omega, by omega⟩, ⟨by decide, by decide, by decide⟩⟩
        clear hgb hlr htb hw' hh' hW3 hH3 hp1 hp2 hp12 hr0 hF hl3 hl4 hq0 hb4 hbs HBW HBB
        go_wp2_with fail
        clear a1 a2 a3 a4 HG HR f0 f1 f2
        generalize w1.alloc (.cells #[.int .i64 (w' : Nat), .int .i64 (h' : Nat), .slice none 0 0] 35) = w2 at *
        generalize w1.heap.size = qb at *
        go_loopw [12] (fun v wr => ∃ jj : Nat, ∃ vs : Value, jj ≤ h' ∧ v = .int .i64 ((t' + jj : Nat) : Int) ∧ TSt w wr gb gb rb qb 35 35 35 (boxP W j a n c) (boxP W j a n c) noPat (w' : Nat) (h' : Nat) F (jj * w') vs) (fun v _ => t' + h' - (RowKit.intOf v).toNat)
        case atStart => exact ⟨0, _, Nat.zero_le _, rfl, HT.out⟩
        case round =>
          clear HT
          obtain ⟨jj, vs, hjj, rfl, ht⟩ := hrel
          have HT := Lib.hid ht
          clear ht
          obtain ⟨yy, hyy⟩ : ∃ yy, yy = t' + jj := ⟨_, rfl⟩
          rw [← hyy]
          by_cases hjh : jj < h'
          · have hle : (yy : Int) ≤ (b' : Int) := by have := HHE.out; have := HTB.out; omega
            have HYY := Lib.hid hyy
            have HJH := Lib.hid hjh
            have hyH : yy < j := by have := HTB.out; omega
            have HYH := Lib.hid hyH
            go_wp2_with fail
            clear hle hyy hjj hjh hyH
            go_loopw [13] (fun v wr => ∃ i : Nat, ∃ vs : Value, i ≤ w' ∧ v = .int .i64 ((l' + i : Nat) : Int) ∧ TSt w wr gb gb rb qb 35 35 35 (boxP W j a n c) (boxP W j a n c) noPat (w' : Nat) (h' : Nat) F (jj * w' + i) vs) (fun v _ => l' + w' - (RowKit.intOf v).toNat)
            case atStart => exact ⟨0, vs, Nat.zero_le _, rfl, by rw [Nat.add_zero]; exact HT.out⟩
            case round =>
              clear HT
              obtain ⟨i, vs, hi, rfl, ht⟩ := hrel
              have HT := Lib.hid ht
              clear ht
              obtain ⟨xx, hxx⟩ : ∃ xx, xx = l' + i := ⟨_, rfl⟩
              rw [← hxx]
              by_cases hiw : i < w'
              · have hle : (xx : Int) ≤ (r' : Int) := by have := HWE.out; have := HLR.out; omega
                have hxW : xx < W := by have := HLR.out; omega
                have HIW := Lib.hid hiw
                have hq0 := at_lt hxW HYH.out
                obtain ⟨q, hq⟩ : ∃ q, q = yy * W + xx := ⟨_, rfl⟩
                rw [← hq, ← HN.out] at hq0
                obtain ⟨p, hp⟩ : ∃ p, p = yy * W := ⟨_, rfl⟩
                have hqp : q = p + xx := by rw [hp]; exact hq
                obtain ⟨cv, hcv⟩ : ∃ cv, cv = f xx yy := ⟨_, rfl⟩
                obtain ⟨ab, ao, rfl, _, _⟩ := (HZ.out wr HT.out.b).cells q hq0
                have HCG : Hid (∀ w2, Below w.heap.size w w2 → w2.cell? ⟨ab, ao + q, none⟩ = some (.int .i64 (cv : Nat))) := Lib.hid (fun w2 hb2 => by
                  obtain ⟨b', o', e', _, cg⟩ := (HZ.out w2 hb2).cells q hq0
                  cases e'
                  dsimp only at cg
                  rw [hq, flat_at hxW HYH.out, ← hq, ← hcv] at cg
                  exact cg)
                obtain ⟨k, hk⟩ : ∃ k, k = jj * w' + i := ⟨_, rfl⟩
                rw [← hk] at HT
                have HFK : Hid (F k = cv) := Lib.hid (by
                  rw [HFE.out, hcv, hk, hxx, HYY.out]
                  show f (l' + (jj * w' + i) % w') (t' + (jj * w' + i) / w') = _
                  rw [at_mod hiw, at_div hiw])
                have hk4 : k ≤ 40000 := by
                  have h1 := at_lt hiw HJH.out
                  have h2 : w' * h' ≤ 200 * 200 := Nat.mul_le_mul HP12.out.2.2.1 HP12.out.2.2.2
                  omega
                have hxs : xx ≤ 200 := by have := HWB.out; omega
                have hqi : (q : Int) < (n : Int) := Int.ofNat_lt.2 hq0
                have HK2 : Hid (k ≤ 1000000 ∧ jj * w' + (i + 1) = k + 1 ∧ wrap64 ((xx : Int) + 1) = ((l' + (i + 1) : Nat) : Int) ∧ l' + w' - (((l' + (i + 1) : Nat) : Int)).toNat < l' + w' - ((xx : Nat) : Int).toNat) := Lib.hid (by
                  refine ⟨by omega, by omega, wr_nat (by push_cast; omega) (by omega), ?_⟩
                  rw [Int.toNat_natCast, Int.toNat_natCast]
                  omega)
                have e1 : wrap64 ((yy : Int) * (W : Int)) = (p : Int) := wr_nat (by rw [hp]; push_cast; rfl) (by omega)
                have e2 : wrap64 ((p : Int) + (xx : Int)) = (q : Int) := wr_nat (by clear e1; omega) (by clear e1; omega)
                have e1' := wr_same e1
                have e2' := wr_same e2
                have HTd := Lib.hid (HT.out.keep ((Below.refl _ _).drew : Below wr.heap.size wr wr.drew))
                clear hxx hiw hi hxW hq hq0 hp hqp hcv hk hk4 hxs HT
                go_upto_region 29 with fail
                clear hle
                refine wp_region_noPanic ?_
                refine Rt.region_Cn (Sc2 (fun w2 => w2.cell? ⟨gb, 0, none⟩ = some (.int .i64 W) ∧ w2.cell? ⟨gb, 2, none⟩ = some (.slice (some ⟨ab, ao, none⟩) n c) ∧ w2.cell? ⟨ab, ao + q, none⟩ = some (.int .i64 (cv : Nat))) (fun w2 => w2.cell? ⟨qb, 2, none⟩ = some vs) 15) 16 #[false, false, false, false, false, false, false, false, false, false, false, false, false, false, false, false] (by kernel_rfl) (by kernel_rfl) (by kernel_rfl) ?_
                have hS1 : ∀ o, Sc2 (fun w2 => w2.cell? ⟨gb, 0, none⟩ = some (.int .i64 W) ∧ w2.cell? ⟨gb, 2, none⟩ = some (.slice (some ⟨ab, ao, none⟩) n c) ∧ w2.cell? ⟨ab, ao + q, none⟩ = some (.int .i64 (cv : Nat))) (fun w2 => w2.cell? ⟨qb, 2, none⟩ = some vs) 15 o wr.drew := Sc2.of ⟨HTd.out.g.cell 0, HTd.out.g.cell 2, HCG.out wr.drew HTd.out.b⟩ (HTd.out.q.cell 2)
                refine Rt.C_take (none) (i := 0) (oi := _) (v := ?_) rfl (by kernel_rfl) (by kernel_rfl) (by kernel_rfl) (by kernel_rfl) (fun _ _ _ h => h) (Sc2.other (by decide)) (Or.inl ⟨by rfl, ?_⟩) (fun o' _ => hS1 o') ?_
                rotate_left
                · intro w2 hSw
                  obtain ⟨s0, s1, s2⟩ := hSw
                  go_simp
                  try with_reducible rfl
                simp only [Act.put, List.getElem_toArray, List.getElem_cons_succ, List.getElem_cons_zero, List.setIfInBounds_toArray, List.set_cons_zero, List.set_cons_succ]
                refine Rt.C_take (some 15) (i := 1) (oi := _) (v := ?_) rfl (by kernel_rfl) (by kernel_rfl) (by kernel_rfl) (by kernel_rfl) (fun _ _ _ h => h) (Sc2.other (by decide)) (Or.inl ⟨by rfl, ?_⟩) (fun o' _ => hS1 o') ?_
                rotate_left
                · intro w2 hSw
                  have s0 := hSw rfl
                  go_simp
                  try with_reducible rfl
                simp only [Act.put, List.getElem_toArray, List.getElem_cons_succ, List.getElem_cons_zero, List.setIfInBounds_toArray, List.set_cons_zero, List.set_cons_succ]
                refine Rt.C_take (none) (i := 2) (oi := _) (v := ?_) rfl (by kernel_rfl) (by kernel_rfl) (by kernel_rfl) (by kernel_rfl) (fun _ _ _ h => h) (Sc2.other (by decide)) (Or.inl ⟨by rfl, ?_⟩) (fun o' _ => hS1 o') ?_
                rotate_left
                · intro w2 hSw
                  obtain ⟨s0, s1, s2⟩ := hSw
                  go_simp
                  try with_reducible rfl
                simp only [Act.put, List.getElem_toArray, List.getElem_cons_succ, List.getElem_cons_zero, List.setIfInBounds_toArray, List.set_cons_zero, List.set_cons_succ]
                refine Rt.C_take (none) (i := 3) (oi := _) (v := ?_) rfl (by kernel_rfl) (by kernel_rfl) (by kernel_rfl) (by kernel_rfl) (fun _ _ _ h => h) (Sc2.other (by decide)) (Or.inl ⟨by rfl, ?_⟩) (fun o' _ => hS1 o') ?_
                rotate_left
                · intro w2 hSw
                  obtain ⟨s0, s1, s2⟩ := hSw
                  go_simp
                  try with_reducible rfl
                simp only [Act.put, List.getElem_toArray, List.getElem_cons_succ, List.getElem_cons_zero, List.setIfInBounds_toArray, List.set_cons_zero, List.set_cons_succ]
                refine Rt.C_take (none) (i := 4) (oi := _) (v := ?_) rfl (by kernel_rfl) (by kernel_rfl) (by kernel_rfl) (by kernel_rfl) (fun _ _ _ h => h) (Sc2.other (by decide)) (Or.inl ⟨by rfl, ?_⟩) (fun o' _ => hS1 o') ?_
                rotate_left
                · intro w2 hSw
                  obtain ⟨s0, s1, s2⟩ := hSw
                  go_simp
                  try with_reducible rfl
                simp only [Act.put, List.getElem_toArray, List.getElem_cons_succ, List.getElem_cons_zero, List.setIfInBounds_toArray, List.set_cons_zero, List.set_cons_succ]
                refine Rt.C_take (none) (i := 5) (oi := _) (v := ?_) rfl (by kernel_rfl) (by kernel_rfl) (by kernel_rfl) (by kernel_rfl) (fun _ _ _ h => h) (Sc2.other (by decide)) (Or.inl ⟨by rfl, ?_⟩) (fun o' _ => hS1 o') ?_
                rotate_left
                · intro w2 hSw
                  obtain ⟨s0, s1, s2⟩ := hSw
                  go_simp
                  try with_reducible rfl
                simp only [Act.put, List.getElem_toArray, List.getElem_cons_succ, List.getElem_cons_zero, List.setIfInBounds_toArray, List.set_cons_zero, List.set_cons_succ]
                refine Rt.C_take (none) (i := 6) (oi := _) (v := ?_) rfl (by kernel_rfl) (by kernel_rfl) (by kernel_rfl) (by kernel_rfl) (fun _ _ _ h => h) (Sc2.other (by decide)) (Or.inl ⟨by rfl, ?_⟩) (fun o' _ => hS1 o') ?_
                rotate_left
                · intro w2 hSw
                  obtain ⟨s0, s1, s2⟩ := hSw
                  go_simp
                  try with_reducible rfl
                simp only [Act.put, List.getElem_toArray, List.getElem_cons_succ, List.getElem_cons_zero, List.setIfInBounds_toArray, List.set_cons_zero, List.set_cons_succ]
                refine Rt.C_take (none) (i := 7) (oi := _) (v := ?_) rfl (by kernel_rfl) (by kernel_rfl) (by kernel_rfl) (by kernel_rfl) (fun _ _ _ h => h) (Sc2.other (by decide)) (Or.inl ⟨by rfl, ?_⟩) (fun o' _ => hS1 o') ?_
                rotate_left
                · intro w2 hSw
                  obtain ⟨s0, s1, s2⟩ := hSw
                  go_simp
                  try with_reducible rfl
                simp only [Act.put, List.getElem_toArray, List.getElem_cons_succ, List.getElem_cons_zero, List.setIfInBounds_toArray, List.set_cons_zero, List.set_cons_succ]
                refine Rt.C_take (none) (i := 8) (oi := _) (v := ?_) rfl (by kernel_rfl) (by kernel_rfl) (by kernel_rfl) (by kernel_rfl) (fun _ _ _ h => h) (Sc2.other (by decide)) (Or.inl ⟨by rfl, ?_⟩) (fun o' _ => hS1 o') ?_
                rotate_left
                · intro w2 hSw
                  obtain ⟨s0, s1, s2⟩ := hSw
                  go_simp
                  try with_reducible rfl
                simp only [Act.put, List.getElem_toArray, List.getElem_cons_succ, List.getElem_cons_zero, List.setIfInBounds_toArray, List.set_cons_zero, List.set_cons_succ]
                refine Rt.C_take (none) (i := 9) (oi := _) (v := ?_) rfl (by kernel_rfl) (by kernel_rfl) (by kernel_rfl) (by kernel_rfl) (fun _ _ _ h => h) (Sc2.other (by decide)) (Or.inl ⟨by rfl, ?_⟩) (fun o' _ => hS1 o') ?_
                rotate_left
                · intro w2 hSw
                  obtain ⟨s0, s1, s2⟩ := hSw
                  go_simp
                  try with_reducible rfl
                simp only [Act.put, List.getElem_toArray, List.getElem_cons_succ, List.getElem_cons_zero, List.setIfInBounds_toArray, List.set_cons_zero, List.set_cons_succ]
                refine Rt.C_take (none) (i := 10) (oi := _) (v := ?_) rfl (by kernel_rfl) (by kernel_rfl) (by kernel_rfl) (by kernel_rfl) (fun _ _ _ h => h) (Sc2.other (by decide)) (Or.inl ⟨by rfl, ?_⟩) (fun o' _ => hS1 o') ?_
                rotate_left
                · intro w2 hSw
                  obtain ⟨s0, s1, s2⟩ := hSw
                  go_simp
                  try with_reducible rfl
                simp only [Act.put, List.getElem_toArray, List.getElem_cons_succ, List.getElem_cons_zero, List.setIfInBounds_toArray, List.set_cons_zero, List.set_cons_succ]
                refine Rt.C_take (none) (i := 11) (oi := _) (v := ?_) rfl (by kernel_rfl) (by kernel_rfl) (by kernel_rfl) (by kernel_rfl) (fun _ _ _ h => h) (Sc2.other (by decide)) (Or.inl ⟨by rfl, ?_⟩) (fun o' _ => hS1 o') ?_
                rotate_left
                · intro w2 hSw
                  obtain ⟨s0, s1, s2⟩ := hSw
                  go_simp
                  try with_reducible rfl
                simp only [Act.put, List.getElem_toArray, List.getElem_cons_succ, List.getElem_cons_zero, List.setIfInBounds_toArray, List.set_cons_zero, List.set_cons_succ]
                clear hS1
                refine Rt.C_ready (rs := [12]) (by kernel_rfl) (by simp) ?_
                refine Rt.AllC.cons (i := 12) (o := _) rfl (by rfl) (fun K' hK => ?_) ?_
                · skip
                  have hnew := row_alloc wr.drew 3 [.int .i64 (cv : Nat)]
                  have hbn : Below wr.drew.heap.size wr.drew (wr.drew.alloc (.cells [.int .i64 (cv : Nat)].toArray 3)) := (Below.refl _ _).alloc (Nat.le_refl _) _
                  have HTa := Lib.hid (HTd.out.keep hbn)
                  have HCEL := Lib.hid (hnew.cell 0)
                  clear hnew hbn HTd
                  go_simp
                  refine hK _ _ (fun o _ => Sc2.of ⟨HTa.out.g.cell 0, HTa.out.g.cell 2, HCG.out _ HTa.out.b⟩ (HTa.out.q.cell 2) o) ?_
                  clear hK K'
                  simp only [Act.put, List.getElem_toArray, List.getElem_cons_succ, List.getElem_cons_zero, List.setIfInBounds_toArray, List.set_cons_zero, List.set_cons_succ]
                  refine Rt.C_ready (rs := [13]) (by kernel_rfl) (by simp) ?_
                  refine Rt.AllC.cons (i := 13) (o := _) rfl (by rfl) (fun K' hK => ?_) ?_
                  · skip
                    refine wp_app_ints _ _ rfl w.heap.size vs k (lstN k F) (by rfl) HTa.out.o wr.drew.heap.size 0 1 1 [(cv : Int)] (by rfl) rfl ?c1 HK2.out.1 (by decide) (by decide) HTa.out.b.size ?_
                    case c1 =>
                      intro j' hj'
                      obtain rfl : j' = 0 := by omega
                      exact HCEL.out
                    intro g7 c7 w7 ho7 hg7
                    rw [List.map_append] at ho7
                    have HPU := Lib.hid (HTa.out.push hg7 ho7 HFK.out)
                    have HM7 := Lib.hid (HTa.out.after hg7)
                    clear ho7 hg7 HTa HCEL
                    refine hK _ _ (fun o _ => Sc2.of ⟨HM7.out.1.cell 0, HM7.out.1.cell 2, HCG.out _ HM7.out.2.2⟩ (HM7.out.2.1.cell 2) o) ?_
                    clear hK K'
                    simp only [Act.put, List.getElem_toArray, List.getElem_cons_succ, List.getElem_cons_zero, List.setIfInBounds_toArray, List.set_cons_zero, List.set_cons_succ]
                    refine Rt.C_take (none) (i := 14) (oi := _) (v := ?_) rfl (by kernel_rfl) (by kernel_rfl) (by kernel_rfl) (by kernel_rfl) (fun _ _ _ h => h) (Sc2.other (by decide)) (Or.inl ⟨by rfl, ?_⟩) (fun o _ => Sc2.of ⟨HM7.out.1.cell 0, HM7.out.1.cell 2, HCG.out _ HM7.out.2.2⟩ (HM7.out.2.1.cell 2) o) ?_
                    rotate_left
                    · intro w2 hSw
                      obtain ⟨s0, s1, s2⟩ := hSw
                      go_simp
                      try with_reducible rfl
                    simp only [Act.put, List.getElem_toArray, List.getElem_cons_succ, List.getElem_cons_zero, List.setIfInBounds_toArray, List.set_cons_zero, List.set_cons_succ]
                    refine Rt.C_ready (rs := [15]) (by kernel_rfl) (by simp) ?_
                    refine Rt.AllC.cons (i := 15) (o := _) rfl (by rfl) (fun K' hK => ?_) ?_
                    · skip
                      have c2 := HM7.out.2.1.cell 2
                      have z2 := HM7.out.2.1.frozen 2
                      dsimp only [List.getElem?_cons_succ, List.getElem?_cons_zero] at c2
                      go_simp
                      refine hK _ _ (fun o hl => Sc2.late ⟨HPU.out.g.cell 0, HPU.out.g.cell 2, HCG.out _ HPU.out.b⟩ (by rfl) o hl) ?_
                      clear hK K'
                      simp only [Act.put, List.getElem_toArray, List.getElem_cons_succ, List.getElem_cons_zero, List.setIfInBounds_toArray, List.set_cons_zero, List.set_cons_succ]
                      refine Rt.C_done (by kernel_rfl) ?_ _
                      refine NoPanic.normal ?_
                      clear c2 z2 HM7
                      generalize w7.setCell ⟨qb, 2, none⟩ (.slice (some ⟨g7, 0, none⟩) (k + 1) c7) = w9 at *
                      have hin1 := HK2.out.2.2.1
                      have hin1' := wr_same hin1
                      go_wp2_with fail
                      go_roundw
                      case rel => exact ⟨i + 1, HIW.out, by simp, _, by rw [HK2.out.2.1]; exact HPU.out⟩
                      case measure => exact HK2.out.2.2.2
                    exact Rt.AllC.nil
                  exact Rt.AllC.nil
                exact Rt.AllC.nil
              · obtain rfl : i = w' := by omega
                have hle : ¬ (xx : Int) ≤ (r' : Int) := by have := HWE.out; have := HLR.out; omega
                have hyn : wrap64 ((yy : Int) + 1) = ((t' + (jj + 1) : Nat) : Int) := wr_nat (by have := HYY.out; push_cast; omega) (by have := HYY.out; have := HYH.out; have := HHB.out; omega)
                have hyn' := wr_same hyn
                have HJM : Hid (t' + h' - (((t' + (jj + 1) : Nat) : Int)).toNat < t' + h' - ((yy : Nat) : Int).toNat) := Lib.hid (by
                  have := HJH.out
                  have := HYY.out
                  rw [Int.toNat_natCast, Int.toNat_natCast]
                  clear hyn hyn' hle
                  omega)
                clear hxx hi
                go_wp2_with fail
                go_roundw
                case rel => exact ⟨jj + 1, _, HJH.out, rfl, by rw [Nat.succ_mul]; exact HT.out⟩
                case measure => exact HJM.out
          · obtain rfl : jj = h' := by omega
            have hle : ¬ (yy : Int) ≤ (b' : Int) := by have := HHE.out; have := HTB.out; omega
            obtain ⟨n', hn'⟩ : ∃ n', n' = jj * w' := ⟨_, rfl⟩
            have ht := HT.out
            rw [← hn'] at ht
            have HNE : Hid (n' = w' * jj) := Lib.hid (by rw [hn', Nat.mul_comm])
            obtain ⟨av, cv, hve, hvn, hvm, hvi, hvb⟩ := own_is ht.o
            subst hve
            have l5 := row_range ht.q
            have HX := Lib.hid ht
            have HRC := Lib.hid hvn
            clear hvn hvm hvb hvi HT ht hn' hyy hjh hjj
            go_wp2_with (first | (refine wpList_load_mid rfl 35 _ rfl qb 0 rfl _ _ l5 Tryd.underlying35 rfl infoPat ?_) | (refine Ops.wpList_store_arr rfl 35 _ _ rfl rb rfl 35 _ (boxP (w' : Nat) (jj : Nat) av n' cv) rfl HX.out.r rfl infoPat (boxP_one _ _ _ _ _) ?_; intro w5 hrow5 hon5))
            obtain ⟨av', cv', hve, hvn, hvm, hvi, hvb⟩ := own_is (own_only HX.out.o hon5 (own_ne HX.out.o HX.out.r (by decide)))
            cases hve
            refine bodyPost_ret (results_pat3 (t := 2) (u := 3) (v := 4) (e := .int .i64 (l' : Nat)) (f := .int .i64 (t' : Nat)) rfl _ _ hrow5 rfl rfl rfl rfl) rfl ⟨⟨w', jj, l', t', av, n', cv, rfl, _, .inr ⟨r', b', HGX.out, HWE.out, HHE.out, rfl⟩, HNE.out, HRC.out, ?_, hvb⟩, HX.out.b.trans (hon5.below HRB.out)⟩
            have hfl : lstN n' F = flat w' jj (fun x y => f (l' + x) (t' + y)) := by rw [HFE.out, HNE.out]; rfl
            rw [← hfl]
            exact hvi
end Pn
end Go.Proofs.YtgagophijmiceaaDoor
