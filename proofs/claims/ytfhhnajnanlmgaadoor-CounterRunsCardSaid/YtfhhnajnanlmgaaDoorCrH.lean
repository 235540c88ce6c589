/- WALK: edenref5.Fractions. -/
import Derived.Test.YtfhhnajnanlmgaaDoorCrF
namespace Go.Proofs.YtfhhnajnanlmgaaDoor
set_option linter.unusedSimpArgs false
set_option linter.unusedVariables false
open Go.RowKit
namespace Cr
open Tld Mem

theorem okI_any {m i : Nat} {op a t e : Int} (h : okI m op a t e) (hi : i < m) : 0 ≤ a ∧ a ≤ 3 ∧ 0 ≤ t ∧ t < m ∧ 0 ≤ e ∧ e < m ∧ (op = 1 ∨ op = 2 ∨ op = 3) := by unfold okI at h; omega
theorem wrap_same (x : Int) : IntKind.i64.wrap x = wrap64 x := by rw [IntKind.wrap_i64]; unfold wrap64; omega
theorem ix4 {k m N : Nat} (hN : N = 4 + 2 * m) (hk : k < m) (hm : m ≤ 12) : ∃ k2 j : Nat, k2 = 2 * k ∧ j = 4 + 2 * k ∧ wrap64 (2 * (k : Int)) = (k2 : Int) ∧ wrap64 (4 + (k2 : Int)) = (j : Int) ∧ (j : Int) < (N : Int) :=
  ⟨2 * k, 4 + 2 * k, rfl, rfl, wr2 (by omega), wr4 (by omega), by rw [hN]; have := idx4 hk; omega⟩
theorem ix5 {k m N : Nat} (hN : N = 4 + 2 * m) (hk : k < m) (hm : m ≤ 12) : ∃ k2 j : Nat, k2 = 2 * k ∧ j = 5 + 2 * k ∧ wrap64 (2 * (k : Int)) = (k2 : Int) ∧ wrap64 (5 + (k2 : Int)) = (j : Int) ∧ (j : Int) < (N : Int) :=
  ⟨2 * k, 5 + 2 * k, rfl, rfl, wr2 (by omega), wr5 (by omega), by rw [hN]; have := idx5 hk; omega⟩
set_option maxHeartbeats 8000000 in
set_option maxRecDepth 1000000 in
theorem refFractions (sa : Option Addr) (m c : Nat) (f : Nat → Nat → Int) (w : World) (hF : Mem.Rows w sa m 4 (fun i j => .int .i64 (f i j))) (hok : CodeOk f m) :
    Calls Tryd.prog 14 #[.slice sa m c] w fun e w' => (∃ v, e = .returned v ∧ w'.ownsRow w.heap.size 50 2 v (num f m + m) ((allF f m).map (Value.int .i64))) ∧ Below w.heap.size w w' := by
  obtain ⟨i0, hI0, hz0, hz1, hz2⟩ := info_parts infoFracN
  have HI0 := Lib.hid hI0
  have HZ0 := Lib.hid hz0
  have HZ1 := Lib.hid hz1
  have HZ2 := Lib.hid hz2
  clear hI0 hz0 hz1 hz2
  have hm12 := hok.2.1
  have HF := Lib.hid hF
  have HOK := Lib.hid hok.2.2
  clear hF
  have hpr := Primes_any (4 + 2 * m) w (by omega)
  rw [show ((4 + 2 * m : Nat) : Int) = 4 + 2 * (m : Int) from by push_cast; rfl] at hpr
  have HPR := Lib.hid hpr
  clear hpr
  go_enter Tryd.func14, Tryd.ntmps14
  go_wp2_with fail
  refine HPR.out.mono ?_
  rintro e2 w2 ⟨⟨pv, rfl, ho⟩, hb2⟩
  obtain ⟨gb, pc, rfl, hp⟩ := PRow.of ho hm12
  have HB := Lib.hid hb2
  have HP := Lib.hid hp
  clear ho hb2 HPR hp
  obtain ⟨N, hN⟩ : ∃ N, N = 4 + 2 * m := ⟨_, rfl⟩
  rw [← hN]
  have HN := Lib.hid hN
  have HM := Lib.hid hm12
  clear hN hm12
  go_wp2_with fail
  go_loopw [4, 5] (fun u v wr => ∃ i : Nat, i ≤ m ∧ v = .int .i64 i ∧ wr.ownsRow w.heap.size 50 2 u (num f i) ((frs f m i).map (Value.int .i64)) ∧ PRow wr gb m ∧ Below w.heap.size w wr) (fun _ v _ => m - (RowKit.intOf v).toNat)
  case atStart => exact ⟨0, Nat.zero_le _, rfl, own_nil _ _ _ _, HP.out, HB.out⟩
  case round =>
    clear HP HB
    obtain ⟨i, hi, rfl, ho, hp, hb⟩ := hrel
    obtain ⟨la, lc, rfl⟩ := own_slice ho
    have HO := Lib.hid ho
    have HP := Lib.hid hp
    have HB := Lib.hid hb
    clear ho hp hb
    by_cases hlt : i < m
    · obtain ⟨b, off, rfl, hbl, hrest⟩ := HF.out.below HB.out (Nat.le_refl _) i hlt
      have k0 := hrest 0 (by omega)
      have k1 := hrest 1 (by omega)
      have k2 := hrest 2 (by omega)
      have k3 := hrest 3 (by omega)
      dsimp only at k0 k1 k2 k3
      rw [Nat.add_zero] at k0
      clear hrest
      have hi2 : (i : Int) < (m : Int) := by omega
      have HI := Lib.hid hlt
      have hio : okI m (f i 0) (f i 1) (f i 2) (f i 3) := HOK.out i hlt
      have HNX := Lib.hid (frs_next f m i)
      have HFL : Hid (frL f m i = if f i 0 = 1 then [pz m (f i 1).toNat * pz m (5 + 2 * (f i 2).toNat), pz m (4 + 2 * i)] else if f i 0 = 2 then [pz m (5 + 2 * (f i 2).toNat), pz m (4 + 2 * i) * pz m (f i 1).toNat, pz m (5 + 2 * (f i 3).toNat), pz m (4 + 2 * i)] else []) := Lib.hid rfl
      have HNM : Hid (num f (i + 1) = num f i + (if f i 0 = 1 then 1 else if f i 0 = 2 then 2 else 0)) := Lib.hid rfl
      have hnum := num_le f i
      obtain ⟨x0, hx0⟩ : ∃ x, x = f i 0 := ⟨_, rfl⟩
      obtain ⟨x1, hx1⟩ : ∃ x, x = f i 1 := ⟨_, rfl⟩
      obtain ⟨x2, hx2⟩ : ∃ x, x = f i 2 := ⟨_, rfl⟩
      obtain ⟨x3, hx3⟩ : ∃ x, x = f i 3 := ⟨_, rfl⟩
      rw [← hx0, ← hx1, ← hx2, ← hx3] at hio HFL
      rw [← hx0] at k0 HNM
      rw [← hx1] at k1
      rw [← hx2] at k2
      rw [← hx3] at k3
      clear hx0 hx1 hx2 hx3
      obtain ⟨a0, a3, t0, tm, e0, em, hops⟩ := okI_any hio hlt
      obtain ⟨a, rfl⟩ : ∃ a : Nat, x1 = a := ⟨x1.toNat, by omega⟩
      obtain ⟨t, rfl⟩ : ∃ t : Nat, x2 = t := ⟨x2.toNat, by omega⟩
      obtain ⟨e, rfl⟩ : ∃ e : Nat, x3 = e := ⟨x3.toNat, by omega⟩
      simp only [Int.toNat_natCast] at HFL
      have hm12 := HM.out
      have ha : a < 4 + 2 * m := by omega
      have ht : t < m := by omega
      have he : e < m := by omega
      obtain ⟨i2, i4, h2, h4, w1, w2', n1⟩ := ix4 HN.out hlt hm12
      obtain ⟨t2, t5, g2, g5, w3, w4, n2⟩ := ix5 HN.out ht hm12
      obtain ⟨e2, e5, f2, f5, w5, w6, n3⟩ := ix5 HN.out he hm12
      rw [← h4, ← g5, ← f5] at HFL
      have cA := HP.out.cell ha
      have cR := HP.out.cell (i := t5) (by rw [g5]; exact idx5 ht)
      have cS := HP.out.cell (i := e5) (by rw [f5]; exact idx5 he)
      have cQ := HP.out.cell (i := i4) (by rw [h4]; exact idx4 hlt)
      have rA := pz_range (m := m) (i := a) hm12 ha
      have rR := pz_range (m := m) (i := t5) hm12 (by rw [g5]; exact idx5 ht)
      have rQ := pz_range (m := m) (i := i4) hm12 (by rw [h4]; exact idx4 hlt)
      have n4 : (a : Int) < (N : Int) := by rw [HN.out]; omega
      obtain ⟨zA, hzA⟩ : ∃ z, z = pz m a := ⟨_, rfl⟩
      obtain ⟨zR, hzR⟩ : ∃ z, z = pz m t5 := ⟨_, rfl⟩
      obtain ⟨zQ, hzQ⟩ : ∃ z, z = pz m i4 := ⟨_, rfl⟩
      obtain ⟨zS, hzS⟩ : ∃ z, z = pz m e5 := ⟨_, rfl⟩
      rw [← hzA, ← hzR, ← hzQ, ← hzS] at HFL
      rw [← hzA] at cA rA
      rw [← hzR] at cR rR
      rw [← hzQ] at cQ rQ
      rw [← hzS] at cS
      clear hzA hzR hzQ hzS
      obtain ⟨mw1, mw2⟩ := mul_wrap rA rR
      obtain ⟨mw3, mw4⟩ := mul_wrap rQ rA
      have hn99 : num f i ≤ 24 := by omega
      generalize hnn : num f i = nn at *
      have HNN := Lib.hid hnn
      have HN99 := Lib.hid hn99
      have HOP := Lib.hid hops
      clear hnn hn99 hops
      clear h2 h4 g2 g5 f2 f5 rA rR rQ ha ht he a0 a3 t0 tm e0 em hm12 hnum hio hlt hi
      go_upto_region 10 with fail
      have HOP := HOP.out
      by_cases h1 : x0 = 1
      · subst h1
        rw [if_pos rfl] at HFL HNM
        have HAL : Hid (Below wr.heap.size wr (wr.alloc (.cells #[.int .i64 (zA * zR), .int .i64 zQ] 50))) := Lib.hid ((Below.refl _ _).alloc (Nat.le_refl _) _)
        have HOA := Lib.hid (own_stays HO.out HAL.out)
        have HPA := Lib.hid (HP.out.keep HAL.out)
        have HBA := Lib.hid (HB.out.trans (HAL.out.mono HB.out.size))
        have HRW : Hid (Row (wr.alloc (.cells #[.int .i64 (zA * zR), .int .i64 zQ] 50)) wr.heap.size 50 [.int .i64 (zA * zR), .int .i64 zQ]) := Lib.hid (row_alloc wr _ _)
        clear cR cQ cS cA k1 k2 k3
        go_upto_region 5 with (at_builtin; refine wpList_app rfl _ _ 22 rfl w.heap.size 50 i0 _ 2 16 Tryd.underlying22 HI0.out HZ0.out HZ1.out HZ2.out rfl (by decide) _ nn _ rfl HOA.out wr.heap.size 1 1 [.int .i64 (zA * zR), .int .i64 zQ] rfl rfl HRW.out (by simp [Value.oneCell']) ?c1 ?c2 HBA.out.size (by omega) ?_)
        case c1 => have := HN99.out; unfold maxLen; omega
        case c2 => have := HN99.out; omega
        intro ao2 co2 wz hO2 hg2
        have HP5 := Lib.hid (HPA.out.grown HOA.out hg2)
        have HB5 := Lib.hid (HBA.out.grown hg2 HBA.out.size (own_low HOA.out))
        have HO5 : Hid (wz.ownsRow w.heap.size 50 2 (.slice ao2 (nn + 1) co2) (num f (i + 1)) ((frs f m (i + 1)).map (Value.int .i64))) := Lib.hid (by rw [HNM.out, HNX.out, HFL.out, List.map_append]; exact hO2)
        have hi12 : i < 12 := Nat.lt_of_lt_of_le HI.out HM.out
        clear hO2 hg2 HOA HPA HBA HRW HAL k0 mw1 mw2 mw3 mw4 w1 w2' w3 w4 w5 w6 n1 n2 n3 n4
        go_wp2_with fail
        go_roundw
        case rel => exact ⟨i + 1, HI.out, by go_num, HO5.out, HP5.out, HB5.out⟩
        case measure => have := HI.out; simp [RowKit.intOf]; omega
      · by_cases h2 : x0 = 2
        · subst h2
          clear h1
          rw [if_neg (by decide), if_pos rfl] at HFL HNM
          have HAL : Hid (Below wr.heap.size wr (wr.alloc (.cells #[.int .i64 zR, .int .i64 (zQ * zA), .int .i64 zS, .int .i64 zQ] 50))) := Lib.hid ((Below.refl _ _).alloc (Nat.le_refl _) _)
          have HOA := Lib.hid (own_stays HO.out HAL.out)
          have HPA := Lib.hid (HP.out.keep HAL.out)
          have HBA := Lib.hid (HB.out.trans (HAL.out.mono HB.out.size))
          have HRW : Hid (Row (wr.alloc (.cells #[.int .i64 zR, .int .i64 (zQ * zA), .int .i64 zS, .int .i64 zQ] 50)) wr.heap.size 50 [.int .i64 zR, .int .i64 (zQ * zA), .int .i64 zS, .int .i64 zQ]) := Lib.hid (row_alloc wr _ _)
          clear cR cQ cS cA k1 k2 k3
          go_upto_region 5 with (at_builtin; refine wpList_app rfl _ _ 22 rfl w.heap.size 50 i0 _ 2 16 Tryd.underlying22 HI0.out HZ0.out HZ1.out HZ2.out rfl (by decide) _ nn _ rfl HOA.out wr.heap.size 2 2 [.int .i64 zR, .int .i64 (zQ * zA), .int .i64 zS, .int .i64 zQ] rfl rfl HRW.out (by simp [Value.oneCell']) ?c1 ?c2 HBA.out.size (by omega) ?_)
          case c1 => have := HN99.out; unfold maxLen; omega
          case c2 => have := HN99.out; omega
          intro ao2 co2 wz hO2 hg2
          have HP5 := Lib.hid (HPA.out.grown HOA.out hg2)
          have HB5 := Lib.hid (HBA.out.grown hg2 HBA.out.size (own_low HOA.out))
          have HO5 : Hid (wz.ownsRow w.heap.size 50 2 (.slice ao2 (nn + 2) co2) (num f (i + 1)) ((frs f m (i + 1)).map (Value.int .i64))) := Lib.hid (by rw [HNM.out, HNX.out, HFL.out, List.map_append]; exact hO2)
          have hi12 : i < 12 := Nat.lt_of_lt_of_le HI.out HM.out
          clear hO2 hg2 HOA HPA HBA HRW HAL k0 mw1 mw2 mw3 mw4 w1 w2' w3 w4 w5 w6 n1 n2 n3 n4
          go_wp2_with fail
          go_roundw
          case rel => exact ⟨i + 1, HI.out, by go_num, HO5.out, HP5.out, HB5.out⟩
          case measure => have := HI.out; simp [RowKit.intOf]; omega
        · have h3 : x0 = 3 := by omega
          subst h3
          rw [if_neg (by decide), if_neg (by decide)] at HFL HNM
          have HO5 : Hid (wr.ownsRow w.heap.size 50 2 (.slice la nn lc) (num f (i + 1)) ((frs f m (i + 1)).map (Value.int .i64))) := Lib.hid (by rw [HNM.out, HNX.out, HFL.out, List.append_nil]; exact HO.out)
          have hi12 : i < 12 := Nat.lt_of_lt_of_le HI.out HM.out
          clear h1 h2 HOP mw1 mw2 mw3 mw4 w1 w2' w3 w4 w5 w6 n1 n2 n3 n4
          go_wp2_with fail
          go_roundw
          case rel => exact ⟨i + 1, HI.out, by go_num, HO5.out, HP.out, HB.out⟩
          case measure => have := HI.out; simp [RowKit.intOf]; omega
    · have e : i = m := by omega
      subst e
      have hnl : ¬ (i : Int) < (i : Int) := by omega
      clear hlt
      go_wp2_with fail
      have HNL := Lib.hid (num_le f i)
      go_loopw [4, 10] (fun u v wr => ∃ j : Nat, j ≤ i ∧ v = .int .i64 j ∧ wr.ownsRow w.heap.size 50 2 u (num f i + j) ((frs f i i ++ tls i j).map (Value.int .i64)) ∧ PRow wr gb i ∧ Below w.heap.size w wr) (fun _ v _ => i - (RowKit.intOf v).toNat)
      case atStart => exact ⟨0, Nat.zero_le _, rfl, by rw [Nat.add_zero, show tls i 0 = [] from rfl, List.append_nil]; exact HO.out, HP.out, HB.out⟩
      case round =>
        clear HP HB HO
        obtain ⟨j, hj, rfl, ho, hp, hb⟩ := hrel
        obtain ⟨ja, jc, rfl⟩ := own_slice ho
        have HO := Lib.hid ho
        have HP := Lib.hid hp
        have HB := Lib.hid hb
        clear ho hp hb
        by_cases hlt : j < i
        · have hj2 : (j : Int) < (i : Int) := by omega
          have HJ := Lib.hid hlt
          have HTN := Lib.hid (tls_next i j)
          have HTL : Hid (tlL i j = [pz i (4 + 2 * j), pz i (5 + 2 * j)]) := Lib.hid rfl
          obtain ⟨j2, j4, h2, h4, w1, w2', n1⟩ := ix4 HN.out hlt HM.out
          obtain ⟨j3, j5, h3, h5, w3, w4, n2⟩ := ix5 HN.out hlt HM.out
          have e23 : j3 = j2 := by omega
          subst e23
          rw [← h4, ← h5] at HTL
          have cQ := HP.out.cell (i := j4) (by rw [h4]; exact idx4 hlt)
          have cR := HP.out.cell (i := j5) (by rw [h5]; exact idx5 hlt)
          obtain ⟨zQ, hzQ⟩ : ∃ z, z = pz i j4 := ⟨_, rfl⟩
          obtain ⟨zR, hzR⟩ : ∃ z, z = pz i j5 := ⟨_, rfl⟩
          have HZQ := Lib.hid hzQ
          have HZR := Lib.hid hzR
          rw [← hzQ, ← hzR] at HTL
          rw [← hzQ] at cQ
          rw [← hzR] at cR
          have H4 := Lib.hid h4
          have H5 := Lib.hid h5
          clear hzQ hzR h2 h4 h5 h3
          have HAL : Hid (Below wr.heap.size wr (wr.alloc (.cells #[.int .i64 zQ, .int .i64 zR] 50)).drew) := Lib.hid (((Below.refl _ _).alloc (Nat.le_refl _) _).drew)
          have HOA := Lib.hid (own_stays HO.out HAL.out)
          have HPA := Lib.hid (HP.out.keep HAL.out)
          have HBA := Lib.hid (HB.out.trans (HAL.out.mono HB.out.size))
          have HRW : Hid (Row (wr.alloc (.cells #[.int .i64 zQ, .int .i64 zR] 50)).drew wr.heap.size 50 [.int .i64 zQ, .int .i64 zR]) := Lib.hid (row_alloc wr _ _).drew
          have hnf : num f i + j ≤ 40 := by have := HNL.out; have := HM.out; omega
          have v1 := (wrap_same _).trans w1
          have v2 := (wrap_same _).trans w2'
          have v4 := (wrap_same _).trans w4
          clear hlt hj
          generalize hnn9 : num f i + j = nj at *
          have HNJ := Lib.hid hnn9
          clear hnn9
          go_upto_region 18 with fail
          go_region_held3 (fun w' => w'.cell? ⟨gb, j4, none⟩ = some (.int .i64 zQ) ∧ w'.cell? ⟨gb, j5, none⟩ = some (.int .i64 zR))
            (first
              | go_keep
              | (refine ⟨?_, ?_⟩
                 · exact ((HPA.out.grown HOA.out hg2).cell (i := j4) (by rw [H4.out]; exact idx4 HJ.out)).trans (by rw [← HZQ.out])
                 · exact ((HPA.out.grown HOA.out hg2).cell (i := j5) (by rw [H5.out]; exact idx5 HJ.out)).trans (by rw [← HZR.out])))
            ((refine step_app (by rfl) _ _ 22 (by rfl) w.heap.size 50 i0 _ 2 16 Tryd.underlying22 HI0.out HZ0.out HZ1.out HZ2.out rfl (by decide) _ nj _ (by rfl) HOA.out wr.heap.size 1 1 [.int .i64 zQ, .int .i64 zR] (by rfl) rfl HRW.out (by simp [Value.oneCell']) (by unfold maxLen; omega) (by omega) HBA.out.size (by omega) ?_; intro ao2 co2 w5 hO2 hg2))
          have HP5 := Lib.hid (HPA.out.grown HOA.out hg2)
          have HB5 := Lib.hid (HBA.out.grown hg2 HBA.out.size (own_low HOA.out))
          have HO5 : Hid (w5.ownsRow w.heap.size 50 2 (.slice ao2 (nj + 1) co2) (num f i + (j + 1)) ((frs f i i ++ tls i (j + 1)).map (Value.int .i64))) := Lib.hid (by
            rw [HTN.out, HTL.out, ← List.append_assoc, List.map_append, ← Nat.add_assoc, HNJ.out]; exact hO2)
          have hj12 : j < 12 := Nat.lt_of_lt_of_le HJ.out HM.out
          clear hO2 hg2 HOA HPA HBA HRW HAL cQ cR w1 w2' w3 w4 n1 n2 v1 v2 v4
          go_wp2_with fail
          go_roundw
          case rel => exact ⟨j + 1, HJ.out, by go_num, HO5.out, HP5.out, HB5.out⟩
          case measure => have := HJ.out; simp [RowKit.intOf]; omega
        · have e : j = i := by omega
          subst e
          have hnl2 : ¬ (j : Int) < (j : Int) := by omega
          clear hlt
          go_wp2_with fail
          go_ret
          exact ⟨⟨_, rfl, HO.out⟩, HB.out⟩
    end Cr
    end Go.Proofs.YtfhhnajnanlmgaaDoor
