/- WALK: pattern.quarter. -/
import Derived.Test.YtgagophijmiceaaDoorPnV
namespace Go.Proofs.YtgagophijmiceaaDoor
set_option linter.unusedSimpArgs false
set_option linter.unusedVariables false
open Go.RowKit
namespace Pn
open Tld Mem Bl

theorem mk_ints (P : Nat) (hP : P ≤ 1000000) (w : World) : (Instr.makeSlice 22 (.int .i64 (P : Int)) (.int .i64 (P : Int))).run Tryd.prog w = .ok (.slice (some ⟨w.heap.size, 0, none⟩) P P) (w.alloc (.cells (Array.replicate P (Value.int .i64 0)) 3)) := by
  obtain ⟨i0, hI0, hz0, hz1, hz2⟩ := info_parts infoIntV
  have hr := run_make (P := Tryd.prog) w 22 3 i0 (.int .i64 0) Tryd.underlying22 hI0 hz0 .i64 .i64 P P (by omega) (Int.le_refl _) (by rw [hz2]; omega) (by omega)
  rw [Int.toNat_natCast, hz1, Nat.mul_one, Ops.madeCells_one (.int .i64 0) rfl, List.toArray_replicate] at hr
  exact hr
theorem wr_in {z : Int} (h0 : -1000000 ≤ z) (h1 : z ≤ 1000000) : wrap64 z = z := by unfold wrap64; omega
def noPat : List Value := [.int .i64 0, .int .i64 0, .slice none 0 0]
theorem noPat_one : ∀ v ∈ noPat, v.oneCell' = true := by simp [noPat, Value.oneCell']
/-- So much of a quarter's turn is written. -/
def qpart (H : Nat) (f : Nat → Nat → Nat) (r c k : Nat) : Nat := if H - 1 - k % H < r ∨ (H - 1 - k % H = r ∧ k / H < c) then f (k / H) (H - 1 - k % H) else 0
theorem qpart_zero {H k : Nat} {f : Nat → Nat → Nat} : qpart H f 0 0 k = 0 := by
  unfold qpart
  exact if_neg (fun h => h.elim (fun h => absurd h (Nat.not_lt_zero _)) (fun h => absurd h.2 (Nat.not_lt_zero _)))

theorem wr_nat {z : Int} {k : Nat} (h : z = (k : Int)) (hk : k ≤ 1000000) : wrap64 z = (k : Int) := by rw [h]; unfold wrap64; omega
theorem wr_same {z k : Int} (h : wrap64 z = k) : IntKind.i64.wrap z = k := by rw [IntKind.wrap_i64]; unfold wrap64 at h; exact h
theorem qpart_else {H r cc k j : Nat} {f : Nat → Nat → Nat} (hrH : r < H) (hj : j = cc * H + (H - 1 - r)) (hne : k ≠ j) : qpart H f r (cc + 1) k = qpart H f r cc k := by
  unfold qpart
  have h0 : ¬ (H - 1 - k % H = r ∧ k / H = cc) := fun ⟨e1, e2⟩ => hne (by
    have hkm := Nat.mod_lt k (show 0 < H by omega)
    have h3 := Nat.div_add_mod k H
    rw [e2, Nat.mul_comm] at h3
    omega)
  by_cases hk1 : H - 1 - k % H < r ∨ (H - 1 - k % H = r ∧ k / H < cc)
  · rw [if_pos hk1, if_pos (by omega)]
  · rw [if_neg hk1, if_neg (by omega)]
theorem qpart_hit {H r cc j : Nat} {f : Nat → Nat → Nat} (hrH : r < H) (hjm : j % H = H - 1 - r) (hjd : j / H = cc) : qpart H f r (cc + 1) j = f cc r := by
  unfold qpart
  rw [hjm, hjd, if_pos (by omega)]
  congr 1
  omega
theorem qpart_row {W H r k : Nat} {f : Nat → Nat → Nat} (hk : k < W * H) : qpart H f (r + 1) 0 k = qpart H f r W k := by
  have : k / H < W := by
    rcases Nat.eq_zero_or_pos H with h | h
    · rw [h, Nat.mul_zero] at hk; omega
    · exact (Nat.div_lt_iff_lt_mul h).2 hk
  unfold qpart
  generalize k / H = d at *
  generalize k % H = e at *
  by_cases hk1 : H - 1 - e < r ∨ (H - 1 - e = r ∧ d < W)
  · rw [if_pos hk1, if_pos (by omega)]
  · rw [if_neg hk1, if_neg (by omega)]
/-- The numbers of a cell's step. -/
theorem cell_nums {r cc W H n : Nat} (hr : r < H) (hc : cc < W) (hn : n = W * H) (hn2 : n ≤ 40000) :
    ∃ q m m2 m3 i j : Nat, i = r * W + cc ∧ j = cc * H + (H - 1 - r) ∧ i < n ∧ j < n ∧ j % H = H - 1 - r ∧ j / H = cc ∧ wrap64 ((r : Int) * (W : Int)) = (q : Int) ∧ wrap64 ((cc : Int) * (H : Int)) = (m : Int) ∧
      wrap64 ((q : Int) + (cc : Int)) = (i : Int) ∧ wrap64 ((m : Int) + (H : Int)) = (m2 : Int) ∧ wrap64 ((m2 : Int) - 1) = (m3 : Int) ∧ wrap64 ((m3 : Int) - (r : Int)) = (j : Int) := by
  have hin : r * W + cc < n := by rw [hn]; exact at_lt hc hr
  have hjn : cc * H + (H - 1 - r) < n := by rw [hn, Nat.mul_comm W H]; exact at_lt (show H - 1 - r < H by omega) hc
  have hjm : (cc * H + (H - 1 - r)) % H = H - 1 - r := at_mod (by omega)
  have hjd : (cc * H + (H - 1 - r)) / H = cc := at_div (by omega)
  have hH2 : H ≤ n := by rw [hn]; exact Nat.le_mul_of_pos_left H (by omega)
  have e1 : (r : Int) * (W : Int) = ((r * W : Nat) : Int) := by push_cast; rfl
  have e2 : (cc : Int) * (H : Int) = ((cc * H : Nat) : Int) := by push_cast; rfl
  refine ⟨r * W, cc * H, cc * H + H, cc * H + H - 1, r * W + cc, cc * H + (H - 1 - r), rfl, rfl, hin, hjn, hjm, hjd, ?_, ?_, ?_, ?_, ?_, ?_⟩
  · exact wr_nat e1 (by omega)
  · exact wr_nat e2 (by omega)
  · clear hjm hjd e1 e2 hn
    generalize r * W = q at *
    generalize cc * H = m at *
    exact wr_nat (by omega) (by omega)
  · clear hjm hjd e1 e2 hn
    generalize r * W = q at *
    generalize cc * H = m at *
    exact wr_nat (by omega) (by omega)
  · clear hjm hjd e1 e2 hn
    generalize r * W = q at *
    generalize cc * H = m at *
    exact wr_nat (by omega) (by omega)
  · clear hjm hjd e1 e2 hn
    generalize r * W = q at *
    generalize cc * H = m at *
    exact wr_nat (by omega) (by omega)
theorem qpart_all {H k : Nat} {f : Nat → Nat → Nat} (hH : 0 < H) : quart H f (k % H) (k / H) = qpart H f H 0 k := by
  unfold qpart quart
  rw [if_pos (by omega)]

set_option maxHeartbeats 8000000 in
set_option maxRecDepth 1000000 in
theorem quarter_any (W H : Nat) (a : Option Addr) (n c : Nat) (f : Nat → Nat → Nat) (w : World) (hZ : Ints.Is w a n (flat W H f)) (hn : n = W * H) (hW : W ≤ 200) (hH : H ≤ 200) :
    Calls Tryd.prog 70 #[pat W H a n c] w fun e w' => (∃ g, e = .returned (pat H W (some ⟨g, 0, none⟩) n n) ∧ w.heap.size ≤ g ∧ Vec w' g n (fun k => quart H f (k % H) (k / H))) ∧ Below w.heap.size w w' := by
  have HZ := Lib.hid (fun w2 (h : Below w.heap.size w w2) => hZ.keep h)
  have hn2 : n ≤ 40000 := by rw [hn]; exact Nat.mul_le_mul hW hH
  have HN := Lib.hid hn
  have HWB := Lib.hid hW
  have HHB := Lib.hid hH
  clear hZ hn hW hH
  unfold pat
  go_enter Tryd.func70, Tryd.ntmps70
  go_upto_region 1 with fail
  obtain ⟨hr5, hr8, hb2⟩ := two_new w 35 35 (boxP W H a n c) noPat
  have HR5 : Hid (Row ((w.alloc (.cells #[.int .i64 W, .int .i64 H, .slice a n c] 35)).alloc (.cells #[.int .i64 0, .int .i64 0, .slice none 0 0] 35)) w.heap.size 35 (boxP W H a n c)) := hr5
  have HR8 : Hid (Row ((w.alloc (.cells #[.int .i64 W, .int .i64 H, .slice a n c] 35)).alloc (.cells #[.int .i64 0, .int .i64 0, .slice none 0 0] 35)) (w.heap.size + 1) 35 noPat) := hr8
  have HB : Hid (Below w.heap.size w ((w.alloc (.cells #[.int .i64 W, .int .i64 H, .slice a n c] 35)).alloc (.cells #[.int .i64 0, .int .i64 0, .slice none 0 0] 35))) := hb2
  clear hr5 hr8 hb2
  generalize (w.alloc (.cells #[.int .i64 W, .int .i64 H, .slice a n c] 35)).alloc (.cells #[.int .i64 0, .int .i64 0, .slice none 0 0] 35) = w1 at *
  obtain ⟨gb, hgb⟩ : ∃ gb, gb = w.heap.size := ⟨_, rfl⟩
  rw [← hgb] at HR5 HR8 ⊢
  obtain ⟨rb, hrb⟩ : ∃ rb, rb = gb + 1 := ⟨_, rfl⟩
  rw [← hrb] at HR8 ⊢
  have HGB := Lib.hid hgb
  have HRB := Lib.hid hrb
  clear hgb hrb
  --{make
  have f0 := HR5.out.cell 0
  have f1 := HR5.out.cell 1
  have f2 := HR5.out.cell 2
  unfold boxP at f0 f1 f2
  dsimp only [List.getElem?_cons_succ, List.getElem?_cons_zero] at f0 f1 f2
  have hl5 := HR5.out.lt
  have hl8 := HR8.out.lt
  have hmk := fun w2 => mk_ints n (by omega) w2
  go_cut [3] (fun v wx => ∃ qb ob, v = .pointer (some ⟨qb, 0, none⟩) ∧ Row wx qb 35 (boxP H W (some ⟨ob, 0, none⟩) n n) ∧ Vec wx ob n (fun _ => 0) ∧ qb ≠ ob ∧ w1.heap.size ≤ qb ∧ w1.heap.size ≤ ob ∧ Below w1.heap.size w1 wx)
  case first =>
    go_region
    · obtain ⟨h1, h2, h3⟩ := two_new w1 3 35 (List.replicate n (.int .i64 0)) (boxP H W (some ⟨w1.heap.size, 0, none⟩) n n)
      rw [List.toArray_replicate] at h1 h2 h3
      go_wp2_with fail
      go_meet
      case rel => exact ⟨w1.heap.size + 1, w1.heap.size, rfl, h2.keep (Below.refl _ _).drew h2.lt, (vec_made h1).keep (Below.refl _ _).drew, by omega, by omega, Nat.le_refl _, h3.drew⟩
    · obtain ⟨h1, h2, h3⟩ := two_new w1 35 3 (boxP H W (some ⟨w1.heap.size + 1, 0, none⟩) n n) (List.replicate n (.int .i64 0))
      rw [List.toArray_replicate] at h1 h2 h3
      go_wp2_with fail
      go_meet
      case rel => exact ⟨w1.heap.size, w1.heap.size + 1, rfl, h1.keep (Below.refl _ _).drew h1.lt, (vec_made h2).keep (Below.refl _ _).drew, by omega, Nat.le_refl _, by omega, h3.drew⟩
  case rest =>
  obtain ⟨qb, ob, rfl, hq, hv, hqo, hqw, how, hb⟩ := hcut
  have HR5 := Lib.hid (HR5.out.keep hb HR5.out.lt)
  have HR8 := Lib.hid (HR8.out.keep hb HR8.out.lt)
  have HNG : Hid (gb ≠ ob ∧ gb ≠ qb) := Lib.hid (by omega)
  have HNR : Hid (rb ≠ ob ∧ rb ≠ qb) := Lib.hid (by omega)
  have HQO := Lib.hid hqo
  have HOW : Hid (w.heap.size ≤ ob) := Lib.hid (Nat.le_trans HB.out.size how)
  have HB := Lib.hid (HB.out.trans (hb.mono HB.out.size))
  have HQ := Lib.hid hq
  have HV : Hid (Vec _ ob n (qpart H f 0 0)) := Lib.hid (hv.congr fun k hk => qpart_zero)
  clear hq hv hqo hqw how hb f0 f1 f2 hl5 hl8 hmk
  have f1 := HR5.out.cell 1
  unfold boxP at f1
  dsimp only [List.getElem?_cons_succ, List.getElem?_cons_zero] at f1
  go_wp2_with fail
  clear f1
  --}
  go_loopw [17] (fun v wr => ∃ r : Nat, r ≤ H ∧ v = .int .i64 (r : Nat) ∧ Row wr gb 35 (boxP W H a n c) ∧ Row wr rb 35 noPat ∧ Row wr qb 35 (boxP H W (some ⟨ob, 0, none⟩) n n) ∧ Vec wr ob n (qpart H f r 0) ∧ Below w.heap.size w wr) (fun v _ => H - (RowKit.intOf v).toNat)
  case atStart => exact ⟨0, Nat.zero_le _, rfl, HR5.out, HR8.out, HQ.out, HV.out, HB.out⟩
  case round =>
    clear HR5 HR8 HQ HV HB
    obtain ⟨r, hr, rfl, h5, h8, hq, hv, hb⟩ := hrel
    have HR5 := Lib.hid h5
    have HR8 := Lib.hid h8
    have HQ := Lib.hid hq
    have HV := Lib.hid hv
    have HB := Lib.hid hb
    clear h5 h8 hq hv hb
    by_cases hrH : r < H
    · --{row
      have hr2 : (r : Int) < (H : Int) := by omega
      have HRH := Lib.hid hrH
      have f0 := HR5.out.cell 0
      unfold boxP at f0
      dsimp only [List.getElem?_cons_succ, List.getElem?_cons_zero] at f0
      go_wp2_with fail
      clear f0
      obtain ⟨wo, rfl⟩ : ∃ wo : World, wo = wr := ⟨_, rfl⟩
      go_loopw [22] (fun v wr => ∃ cc : Nat, cc ≤ W ∧ v = .int .i64 (cc : Nat) ∧ Row wr gb 35 (boxP W H a n c) ∧ Row wr rb 35 noPat ∧ Row wr qb 35 (boxP H W (some ⟨ob, 0, none⟩) n n) ∧ Vec wr ob n (qpart H f r cc) ∧ Below w.heap.size w wr) (fun v _ => W - (RowKit.intOf v).toNat)
      case atStart => exact ⟨0, Nat.zero_le _, rfl, HR5.out, HR8.out, HQ.out, HV.out, HB.out⟩
      case round =>
        clear HR5 HR8 HQ HV HB
        obtain ⟨cc, hc, rfl, h5, h8, hq, hv, hb⟩ := hrel
        have HR5 := Lib.hid h5
        have HR8 := Lib.hid h8
        have HQ := Lib.hid hq
        have HV := Lib.hid hv
        have HB := Lib.hid hb
        clear h5 h8 hq hv hb
        by_cases hcW : cc < W
        · --{cell
          have hc2 : (cc : Int) < (W : Int) := by omega
          have HCW := Lib.hid hcW
          obtain ⟨q, m, m2, m3, i, j, hi, hj, hin, hjn, hjm, hjd, wq, wm, wi, w2, w3, w4⟩ := cell_nums hrH hcW HN.out hn2
          obtain ⟨ab, ao, rfl, _, cg⟩ := (HZ.out wr HB.out).cells i hin
          dsimp only at cg
          rw [hi, flat_at hcW hrH, ← hi] at cg
          obtain ⟨y, hy⟩ : ∃ y, y = f cc r := ⟨_, rfl⟩
          rw [← hy] at cg
          have hO := only_setCell wr ob j (.int .i64 (y : Nat))
          have hV2 : Vec (wr.setCell ⟨ob, j, none⟩ (.int .i64 (y : Nat))) ob n (qpart H f r (cc + 1)) := HV.out.set hjn (fun k hk hne => qpart_else hrH hj hne) (by rw [hy]; exact qpart_hit hrH hjm hjd)
          have HV2 : Hid (Vec (wr.setCell ⟨ob, j, none⟩ (.int .i64 (y : Nat))).drew ob n (qpart H f r (cc + 1))) := Lib.hid (hV2.keep (Below.refl _ _).drew)
          have hO := only_drew hO
          have HR52 := Lib.hid (HR5.out.other hO HNG.out.1)
          have HR82 := Lib.hid (HR8.out.other hO HNR.out.1)
          have HQ2 := Lib.hid (HQ.out.other hO HQO.out)
          have HB2 := Lib.hid (HB.out.trans (hO.below HOW.out))
          have cy := HV.out.cell hjn
          have zy := HV.out.frozen j
          have vi := wr_same wi
          have v2 := wr_same w2
          have v3 := wr_same w3
          have v4 := wr_same w4
          have vq := wr_same wq
          have vm := wr_same wm
          have f0 := HR5.out.cell 0
          have f1 := HR5.out.cell 1
          have f2 := HR5.out.cell 2
          have g0 := HQ.out.cell 0
          have g2 := HQ.out.cell 2
          unfold boxP at f0 f1 f2 g0 g2
          dsimp only [List.getElem?_cons_succ, List.getElem?_cons_zero] at f0 f1 f2 g0 g2
          have hj2 : (j : Int) < (n : Int) := Int.ofNat_lt.2 hjn
          have hi2 : (i : Int) < (n : Int) := Int.ofNat_lt.2 hin
          clear hi hj hin hjn hjm hjd hO hV2 hrH hcW hy HV HR5 HR8 HQ HB
          go_upto_region 8 with fail
          refine wp_region_noPanic ?_
          go_region
          refine NoPanic.normal ?_
          clear cy zy f0 f1 f2 g0 g2 cg
          generalize (wr.setCell ⟨ob, j, none⟩ (.int .i64 (y : Nat))).drew = w9 at *
          clear vi v2 v3 v4 vq vm wi w2 w3 w4 wq wm
          have hW3 := HWB.out
          have hc3 := HCW.out
          go_wp2_with fail
          go_roundw
          case rel => exact ⟨cc + 1, HCW.out, by have := HWB.out; have := HCW.out; go_num, HR52.out, HR82.out, HQ2.out, HV2.out, HB2.out⟩
          case measure => have := HCW.out; have := HWB.out; simp [RowKit.intOf]; omega
          --}
        · obtain rfl : cc = W := by omega
          have hnl : ¬ (cc : Int) < (cc : Int) := by omega
          have HV2 : Hid (Vec wr ob n (qpart H f (r + 1) 0)) := Lib.hid (HV.out.congr fun k hk => qpart_row (by rw [← HN.out]; exact hk))
          clear HV
          have hH3 := HHB.out
          have hr3 := HRH.out
          go_wp2_with fail
          go_roundw
          case rel => exact ⟨r + 1, HRH.out, by have := HRH.out; have := HHB.out; go_num, HR5.out, HR8.out, HQ.out, HV2.out, HB.out⟩
          case measure => have := HRH.out; have := HHB.out; simp [RowKit.intOf]; omega
      --}
    · obtain rfl : r = H := by omega
      have hnl : ¬ (r : Int) < (r : Int) := by omega
      have HV2 : Hid (Vec wr ob n (fun k => quart r f (k % r) (k / r))) := Lib.hid (HV.out.congr fun k hk => qpart_all (by have := HN.out; rcases Nat.eq_zero_or_pos r with h | h; (rw [h, Nat.mul_zero] at this; omega); exact h))
      have l5 := row_range HQ.out
      go_wp2_with (first | (refine wpList_load_mid rfl 35 _ rfl qb 0 rfl _ _ l5 Tryd.underlying35 rfl infoPat ?_) | (refine Ops.wpList_store_arr rfl 35 _ _ rfl rb rfl 35 _ _ rfl HR8.out rfl infoPat (boxP_one _ _ _ _ _) ?_; intro w5 hrow5 hon5))
      refine bodyPost_ret (results_pat1 (t := 2) rfl _ _ hrow5 rfl rfl) rfl ⟨⟨ob, rfl, HOW.out, HV2.out.other hon5 (fun e => HNR.out.1 e.symm)⟩, HB.out.trans (hon5.below (by have := HGB.out; have := HRB.out; omega))⟩
end Pn
end Go.Proofs.YtgagophijmiceaaDoor
