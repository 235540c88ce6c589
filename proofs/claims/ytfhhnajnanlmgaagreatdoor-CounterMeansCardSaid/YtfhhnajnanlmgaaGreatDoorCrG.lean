/- WALK: counter.Fractions. -/
import Derived.Test.YtfhhnajnanlmgaaGreatDoorCrF
namespace Go.Proofs.YtfhhnajnanlmgaaGreatDoor
set_option linter.unusedSimpArgs false
set_option linter.unusedVariables false
open Go.RowKit
namespace Cr
open Tld Mem

set_option maxHeartbeats 4000000 in
set_option maxRecDepth 1000000 in
theorem Fractions_bad (sa : Option Addr) (m c : Nat) (f : Nat → Nat → Int) (w : World) (hm : m ≤ 9223372036854775807) (hF : Mem.Rows w sa m 4 (fun i j => .int .i64 (f i j))) (hb : codeF f m ≠ 0) :
    Calls Tryz.prog 14 #[.slice sa m c] w fun e w' => e = .returned (.tuple #[.slice none 0 0, errV (codeF f m)]) ∧ Below w.heap.size w w' := by
  have hc := check_any sa m c f w hm hF
  rw [errV_some hb] at hc ⊢
  have HC := Lib.hid hc
  clear hc hF hb
  go_enter Tryz.func14, Tryz.ntmps14
  go_wp2_with fail
  refine HC.out.mono ?_
  rintro e1 w1 ⟨rfl, hb1⟩
  have HB := Lib.hid hb1
  clear hb1
  go_wp2_with fail
  go_ret2
  exact ⟨rfl, HB.out⟩

set_option maxHeartbeats 8000000 in
set_option maxRecDepth 1000000 in
theorem Fractions_ok (sa : Option Addr) (m c : Nat) (f : Nat → Nat → Int) (w : World) (hF : Mem.Rows w sa m 4 (fun i j => .int .i64 (f i j))) (hok : CodeOk f m) :
    Calls Tryz.prog 14 #[.slice sa m c] w fun e w' => (∃ v, e = .returned (.tuple #[v, .nilIface]) ∧ w'.ownsRow w.heap.size 75 2 v (num f m + m) ((allF f m).map (Value.int .i64))) ∧ Below w.heap.size w w' := by
  obtain ⟨i0, hI0, hz0, hz1, hz2⟩ := info_parts infoFracN
  have HI0 := Lib.hid hI0
  have HZ0 := Lib.hid hz0
  have HZ1 := Lib.hid hz1
  have HZ2 := Lib.hid hz2
  clear hI0 hz0 hz1 hz2
  have hm12 := hok.2.1
  have hc := check_any sa m c f w (by omega) hF
  rw [codeF_ok hok, errV_zero rfl] at hc
  have HC := Lib.hid hc
  have HF := Lib.hid hF
  have HOK := Lib.hid hok.2.2
  clear hc hF
  go_enter Tryz.func14, Tryz.ntmps14
  go_wp2_with fail
  refine HC.out.mono ?_
  rintro e1 w1 ⟨rfl, hb1⟩
  have HB := Lib.hid hb1
  clear hb1
  have hpr := primes_any (4 + 2 * m) w1 (by omega)
  rw [show ((4 + 2 * m : Nat) : Int) = 4 + 2 * (m : Int) from by push_cast; rfl] at hpr
  have HPR := Lib.hid hpr
  clear hpr
  go_wp2_with fail
  refine HPR.out.mono ?_
  rintro e2 w2 ⟨⟨pv, rfl, ho⟩, hb2⟩
  obtain ⟨gb, pc, rfl, hp⟩ := PRow.of ho hm12
  have HB := Lib.hid (HB.out.trans (hb2.mono HB.out.size))
  clear ho hb2 HPR HC
  obtain ⟨N, hN⟩ : ∃ N, N = 4 + 2 * m := ⟨_, rfl⟩
  rw [← hN]
  have HN := Lib.hid hN
  clear hN
  go_upto_region 5 with fail
  have hnew := row_alloc w2 32 [.slice (some ⟨gb, 0, none⟩) N pc]
  have hbn : Below w2.heap.size w2 (w2.alloc (.cells #[.slice (some ⟨gb, 0, none⟩) N pc] 32)) := (Below.refl _ _).alloc (Nat.le_refl _) _
  have HP := Lib.hid (hp.keep hbn)
  have HB := Lib.hid (HB.out.trans (hbn.mono HB.out.size))
  have HX : Hid (Row (w2.alloc (.cells #[.slice (some ⟨gb, 0, none⟩) N pc] 32)) w2.heap.size 32 [.slice (some ⟨gb, 0, none⟩) N pc]) := Lib.hid hnew
  clear hnew hbn hp
  obtain ⟨pb, hpb⟩ : ∃ pb, pb = w2.heap.size := ⟨_, rfl⟩
  rw [← hpb] at HX ⊢
  clear hpb
  generalize w2.alloc (.cells #[.slice (some ⟨gb, 0, none⟩) N pc] 32) = w3 at *
  go_wp2_with fail
  go_loopw [8, 26] (fun u v wr => ∃ i : Nat, i ≤ m ∧ v = .int .i64 i ∧ wr.ownsRow w.heap.size 75 2 u (num f i) ((frs f m i).map (Value.int .i64)) ∧ Row wr pb 32 [.slice (some ⟨gb, 0, none⟩) N pc] ∧ PRow wr gb m ∧ Below w.heap.size w wr) (fun _ v _ => m - (RowKit.intOf v).toNat)
  case atStart => exact ⟨0, Nat.zero_le _, rfl, own_nil _ _ _ _, HX.out, HP.out, HB.out⟩
  case round =>
    clear HX HP HB
    obtain ⟨i, hi, rfl, ho, hx, hp, hb⟩ := hrel
    obtain ⟨la, lc, rfl⟩ := own_slice ho
    have HO := Lib.hid ho
    have HX := Lib.hid hx
    have HP := Lib.hid hp
    have HB := Lib.hid hb
    clear ho hx hp hb
    have hnum := num_le f i
    by_cases hlt : i < m
    · obtain ⟨b, off, rfl, hbl, hrest⟩ := HF.out i hlt
      clear hrest
      have l1 := ins_range ((HF.out).below HB.out (Nat.le_refl _)) hlt
      have hi2 : (i : Int) < (m : Int) := by omega
      have HI := Lib.hid hlt
      have hio : okI m (f i 0) (f i 1) (f i 2) (f i 3) := HOK.out i hlt
      have HNX := Lib.hid (frs_next f m i)
      have HFL : Hid (frL f m i = if f i 0 = 1 then [pz m (f i 1).toNat * pz m (5 + 2 * (f i 2).toNat), pz m (4 + 2 * i)] else if f i 0 = 2 then [pz m (5 + 2 * (f i 2).toNat), pz m (4 + 2 * i) * pz m (f i 1).toNat, pz m (5 + 2 * (f i 3).toNat), pz m (4 + 2 * i)] else []) := Lib.hid rfl
      have HNM : Hid (num f (i + 1) = num f i + (if f i 0 = 1 then 1 else if f i 0 = 2 then 2 else 0)) := Lib.hid rfl
      obtain ⟨x0, hx0⟩ : ∃ x, x = f i 0 := ⟨_, rfl⟩
      obtain ⟨x1, hx1⟩ : ∃ x, x = f i 1 := ⟨_, rfl⟩
      obtain ⟨x2, hx2⟩ : ∃ x, x = f i 2 := ⟨_, rfl⟩
      obtain ⟨x3, hx3⟩ : ∃ x, x = f i 3 := ⟨_, rfl⟩
      rw [← hx0, ← hx1, ← hx2, ← hx3] at l1 hio HFL
      rw [← hx0] at HNM
      clear hx0 hx1 hx2 hx3
      generalize hnn : num f i = nn at *
      have HNN := Lib.hid hnn
      clear hnn
      have hrow : Row (wr.alloc (.cells #[.int .i64 x0, .int .i64 x1, .int .i64 x2, .int .i64 x3] 34)) wr.heap.size 34 [.int .i64 x0, .int .i64 x1, .int .i64 x2, .int .i64 x3] := row_alloc wr _ _
      have hbn2 : Below wr.heap.size wr (wr.alloc (.cells #[.int .i64 x0, .int .i64 x1, .int .i64 x2, .int .i64 x3] 34)) := (Below.refl _ _).alloc (Nat.le_refl _) _
      have HO := Lib.hid (own_stays HO.out hbn2)
      have HX := Lib.hid (HX.out.keep hbn2 HX.out.lt)
      have HP := Lib.hid (HP.out.keep hbn2)
      have HB := Lib.hid (HB.out.trans (hbn2.mono HB.out.size))
      have HE := Lib.hid hrow
      clear hbn2 hrow
      go_upto_region 11 with (refine wpList_load_mid rfl 34 _ rfl b (off + i * 4) rfl _ _ l1 Tryz.underlying34 rfl infoIns ?_; clear l1)
      obtain ⟨b7, hb7⟩ : ∃ b7, b7 = wr.heap.size := ⟨_, rfl⟩
      have HE : Hid (Row (wr.alloc (.cells #[.int .i64 x0, .int .i64 x1, .int .i64 x2, .int .i64 x3] 34)) wr.heap.size 34 [.int .i64 x0, .int .i64 x1, .int .i64 x2, .int .i64 x3]) := HE
      rw [← hb7] at HE ⊢
      clear hb7
      generalize wr.alloc (.cells #[.int .i64 x0, .int .i64 x1, .int .i64 x2, .int .i64 x3] 34) = w4 at *
      have c0 := HE.out.cell 0
      dsimp only [List.getElem?_cons_zero] at c0
      by_cases h1 : x0 = 1
      · subst h1
        have hb1 : 0 ≤ x1 ∧ x1 ≤ 3 ∧ 0 ≤ x2 ∧ x2 < m := by unfold okI at hio; omega
        rw [if_pos rfl] at HFL HNM
        clear hio
        obtain ⟨a, rfl⟩ : ∃ a : Nat, x1 = a := ⟨x1.toNat, by omega⟩
        obtain ⟨t, rfl⟩ : ∃ t : Nat, x2 = t := ⟨x2.toNat, by omega⟩
        simp only [Int.toNat_natCast] at HFL
        have ha : a < 4 + 2 * m := by omega
        have ht : t < m := by omega
        have haN : (a : Int) < (N : Int) := by have := HN.out; omega
        have rA := pz_range (m := m) (i := a) hm12 ha
        have rR := pz_range (m := m) (i := 5 + 2 * t) hm12 (idx5 ht)
        have rQ := pz_range (m := m) (i := 4 + 2 * i) hm12 (idx4 hlt)
        have cA := HP.out.cell ha
        have cR := HP.out.cell (i := 5 + 2 * t) (idx5 ht)
        have cQ := HP.out.cell (i := 4 + 2 * i) (idx4 hlt)
        have cx := HX.out.cell 0
        have c1 := HE.out.cell 1
        have c2 := HE.out.cell 2
        dsimp only [List.getElem?_cons_succ, List.getElem?_cons_zero] at cx c1 c2
        obtain ⟨zA, hzA⟩ : ∃ z, z = pz m a := ⟨_, rfl⟩
        obtain ⟨zR, hzR⟩ : ∃ z, z = pz m (5 + 2 * t) := ⟨_, rfl⟩
        obtain ⟨zQ, hzQ⟩ : ∃ z, z = pz m (4 + 2 * i) := ⟨_, rfl⟩
        rw [← hzA, ← hzR, ← hzQ] at HFL
        rw [← hzA] at cA rA
        rw [← hzR] at cR rR
        rw [← hzQ] at cQ rQ
        have HZA := Lib.hid hzA
        clear hzA hzR hzQ
        have HQ := Lib.hid (qr_aux i N (4 + 2 * i) (2 * i) pb gb 0 pc zQ w4.drew cx (by rw [Nat.zero_add]; exact cQ) (wr2 (by omega)) (wr4 (by omega)) (by rw [HN.out]; exact idx4 hlt))
        have HR := Lib.hid (r_aux t N (5 + 2 * t) (2 * t) pb gb 0 pc zR w4.drew cx (by rw [Nat.zero_add]; exact cR) (wr2 (by omega)) (wr5 (by omega)) (by rw [HN.out]; exact idx5 ht))
        obtain ⟨mw, mw2⟩ := mul_wrap rA rR
        have HAL : Hid (Below w4.heap.size w4 (w4.alloc (.cells #[.int .i64 (zA * zR), .int .i64 zQ] 75)).drew) := Lib.hid (((Below.refl _ _).alloc (Nat.le_refl _) _).drew)
        have HOA := Lib.hid (own_stays HO.out HAL.out)
        have HXA := Lib.hid (HX.out.keep HAL.out HX.out.lt)
        have HPA := Lib.hid (HP.out.keep HAL.out)
        have HEA := Lib.hid (HE.out.keep HAL.out HE.out.lt)
        have HBA := Lib.hid (HB.out.trans (HAL.out.mono HB.out.size))
        have HRW : Hid (Row (w4.alloc (.cells #[.int .i64 (zA * zR), .int .i64 zQ] 75)).drew w4.heap.size 75 [.int .i64 (zA * zR), .int .i64 zQ]) := Lib.hid (row_alloc w4 _ _).drew
        have hn99 : nn ≤ 24 := by have := num_le f i; rw [HNN.out] at this; omega
        clear cR cQ rA rR rQ hnum ha ht hb1
        go_upto_region 13 with fail
        go_region_held3 (fun w' => w'.cell? ⟨pb, 0, none⟩ = some (.slice (some ⟨gb, 0, none⟩) N pc) ∧ w'.cell? ⟨b7, 1, none⟩ = some (.int .i64 (a : Int)) ∧ w'.cell? ⟨gb, a, none⟩ = some (.int .i64 zA) ∧ w'.cell? ⟨b7, 2, none⟩ = some (.int .i64 (t : Int)))
          (first
            | go_keep
            | (refine ⟨?_, ?_, ?_, ?_⟩
               · exact (row_grown HOA.out hg2 HXA.out (by decide)).cell 0
               · exact (row_grown HOA.out hg2 HEA.out (by decide)).cell 1
               · exact ((HPA.out.grown HOA.out hg2).cell (i := a) (by have := HN.out; omega)).trans (by rw [← HZA.out])
               · exact (row_grown HOA.out hg2 HEA.out (by decide)).cell 2))
          (first
            | (refine HQ.out.mono ?_; rintro e9 w9 ⟨rfl, hw9⟩; rw [hw9])
            | (refine HR.out.mono ?_; rintro e9 w9 ⟨rfl, hw9⟩; rw [hw9])
            | (refine step_app (by rfl) _ _ 43 (by rfl) w.heap.size 75 i0 _ 2 16 Tryz.underlying43 HI0.out HZ0.out HZ1.out HZ2.out rfl (by decide) _ nn _ (by rfl) HOA.out w4.heap.size 1 1 [.int .i64 (zA * zR), .int .i64 zQ] (by rfl) rfl HRW.out (by simp [Value.oneCell']) (by unfold maxLen; omega) (by omega) HBA.out.size (by omega) ?_; intro ao2 co2 w5 hO2 hg2))
        have HX5 := Lib.hid (row_grown HOA.out hg2 HXA.out (by decide))
        have HP5 := Lib.hid (HPA.out.grown HOA.out hg2)
        have HB5 := Lib.hid (HBA.out.grown hg2 HBA.out.size (own_low HOA.out))
        have HO5 : Hid (w5.ownsRow w.heap.size 75 2 (.slice ao2 (nn + 1) co2) (num f (i + 1)) ((frs f m (i + 1)).map (Value.int .i64))) := Lib.hid (by rw [HNM.out, HNX.out, HFL.out, List.map_append]; exact hO2)
        clear hO2 hg2 HOA HXA HPA HEA HBA HRW HAL HQ HR c0 c1 c2 cA cx mw mw2 haN
        go_wp2_with fail
        go_roundw
        case rel => exact ⟨i + 1, HI.out, by go_num, HO5.out, HX5.out, HP5.out, HB5.out⟩
        case measure => have := HI.out; simp [RowKit.intOf]; omega
      · by_cases h2 : x0 = 2
        · subst h2
          clear h1
          have hb1 : 0 ≤ x1 ∧ x1 ≤ 3 ∧ 0 ≤ x2 ∧ x2 < m ∧ 0 ≤ x3 ∧ x3 < m := by unfold okI at hio; omega
          rw [if_neg (by decide), if_pos rfl] at HFL HNM
          clear hio
          obtain ⟨a, rfl⟩ : ∃ a : Nat, x1 = a := ⟨x1.toNat, by omega⟩
          obtain ⟨t, rfl⟩ : ∃ t : Nat, x2 = t := ⟨x2.toNat, by omega⟩
          obtain ⟨e, rfl⟩ : ∃ e : Nat, x3 = e := ⟨x3.toNat, by omega⟩
          simp only [Int.toNat_natCast] at HFL
          have ha : a < 4 + 2 * m := by omega
          have ht : t < m := by omega
          have he : e < m := by omega
          have haN : (a : Int) < (N : Int) := by have := HN.out; omega
          have rA := pz_range (m := m) (i := a) hm12 ha
          have rR := pz_range (m := m) (i := 5 + 2 * t) hm12 (idx5 ht)
          have rQ := pz_range (m := m) (i := 4 + 2 * i) hm12 (idx4 hlt)
          have cA := HP.out.cell ha
          have cR := HP.out.cell (i := 5 + 2 * t) (idx5 ht)
          have cQ := HP.out.cell (i := 4 + 2 * i) (idx4 hlt)
          have cS := HP.out.cell (i := 5 + 2 * e) (idx5 he)
          have cx := HX.out.cell 0
          have c1 := HE.out.cell 1
          have c2 := HE.out.cell 2
          have c3 := HE.out.cell 3
          dsimp only [List.getElem?_cons_succ, List.getElem?_cons_zero] at cx c1 c2 c3
          obtain ⟨zA, hzA⟩ : ∃ z, z = pz m a := ⟨_, rfl⟩
          obtain ⟨zR, hzR⟩ : ∃ z, z = pz m (5 + 2 * t) := ⟨_, rfl⟩
          obtain ⟨zQ, hzQ⟩ : ∃ z, z = pz m (4 + 2 * i) := ⟨_, rfl⟩
          obtain ⟨zS, hzS⟩ : ∃ z, z = pz m (5 + 2 * e) := ⟨_, rfl⟩
          rw [← hzA, ← hzR, ← hzQ, ← hzS] at HFL
          rw [← hzA] at cA rA
          rw [← hzR] at cR rR
          rw [← hzQ] at cQ rQ
          rw [← hzS] at cS
          have HZA := Lib.hid hzA
          clear hzA hzR hzQ hzS
          have HQ := Lib.hid (qr_aux i N (4 + 2 * i) (2 * i) pb gb 0 pc zQ w4.drew cx (by rw [Nat.zero_add]; exact cQ) (wr2 (by omega)) (wr4 (by omega)) (by rw [HN.out]; exact idx4 hlt))
          have HR := Lib.hid (r_aux t N (5 + 2 * t) (2 * t) pb gb 0 pc zR w4.drew cx (by rw [Nat.zero_add]; exact cR) (wr2 (by omega)) (wr5 (by omega)) (by rw [HN.out]; exact idx5 ht))
          have HS := Lib.hid (r_aux e N (5 + 2 * e) (2 * e) pb gb 0 pc zS w4.drew cx (by rw [Nat.zero_add]; exact cS) (wr2 (by omega)) (wr5 (by omega)) (by rw [HN.out]; exact idx5 he))
          obtain ⟨mw, mw2⟩ := mul_wrap rQ rA
          have HAL : Hid (Below w4.heap.size w4 (w4.alloc (.cells #[.int .i64 zR, .int .i64 (zQ * zA), .int .i64 zS, .int .i64 zQ] 75)).drew) := Lib.hid (((Below.refl _ _).alloc (Nat.le_refl _) _).drew)
          have HOA := Lib.hid (own_stays HO.out HAL.out)
          have HXA := Lib.hid (HX.out.keep HAL.out HX.out.lt)
          have HPA := Lib.hid (HP.out.keep HAL.out)
          have HEA := Lib.hid (HE.out.keep HAL.out HE.out.lt)
          have HBA := Lib.hid (HB.out.trans (HAL.out.mono HB.out.size))
          have HRW : Hid (Row (w4.alloc (.cells #[.int .i64 zR, .int .i64 (zQ * zA), .int .i64 zS, .int .i64 zQ] 75)).drew w4.heap.size 75 [.int .i64 zR, .int .i64 (zQ * zA), .int .i64 zS, .int .i64 zQ]) := Lib.hid (row_alloc w4 _ _).drew
          have hn99 : nn ≤ 24 := by have := num_le f i; rw [HNN.out] at this; omega
          clear cR cQ cS rA rR rQ hnum ha ht he hb1
          go_upto_region 15 with fail
          go_region_held3 (fun w' => w'.cell? ⟨pb, 0, none⟩ = some (.slice (some ⟨gb, 0, none⟩) N pc) ∧ w'.cell? ⟨b7, 1, none⟩ = some (.int .i64 (a : Int)) ∧ w'.cell? ⟨gb, a, none⟩ = some (.int .i64 zA) ∧ w'.cell? ⟨b7, 2, none⟩ = some (.int .i64 (t : Int)) ∧ w'.cell? ⟨b7, 3, none⟩ = some (.int .i64 (e : Int)))
            (first
              | go_keep
              | (refine ⟨?_, ?_, ?_, ?_, ?_⟩
                 · exact (row_grown HOA.out hg2 HXA.out (by decide)).cell 0
                 · exact (row_grown HOA.out hg2 HEA.out (by decide)).cell 1
                 · exact ((HPA.out.grown HOA.out hg2).cell (i := a) (by have := HN.out; omega)).trans (by rw [← HZA.out])
                 · exact (row_grown HOA.out hg2 HEA.out (by decide)).cell 2
                 · exact (row_grown HOA.out hg2 HEA.out (by decide)).cell 3))
            (first
              | (refine HQ.out.mono ?_; rintro e9 w9 ⟨rfl, hw9⟩; rw [hw9])
              | (refine HR.out.mono ?_; rintro e9 w9 ⟨rfl, hw9⟩; rw [hw9])
              | (refine HS.out.mono ?_; rintro e9 w9 ⟨rfl, hw9⟩; rw [hw9])
              | (refine step_app (by rfl) _ _ 43 (by rfl) w.heap.size 75 i0 _ 2 16 Tryz.underlying43 HI0.out HZ0.out HZ1.out HZ2.out rfl (by decide) _ nn _ (by rfl) HOA.out w4.heap.size 2 2 [.int .i64 zR, .int .i64 (zQ * zA), .int .i64 zS, .int .i64 zQ] (by rfl) rfl HRW.out (by simp [Value.oneCell']) (by unfold maxLen; omega) (by omega) HBA.out.size (by omega) ?_; intro ao2 co2 w5 hO2 hg2))
          have HX5 := Lib.hid (row_grown HOA.out hg2 HXA.out (by decide))
          have HP5 := Lib.hid (HPA.out.grown HOA.out hg2)
          have HB5 := Lib.hid (HBA.out.grown hg2 HBA.out.size (own_low HOA.out))
          have HO5 : Hid (w5.ownsRow w.heap.size 75 2 (.slice ao2 (nn + 2) co2) (num f (i + 1)) ((frs f m (i + 1)).map (Value.int .i64))) := Lib.hid (by rw [HNM.out, HNX.out, HFL.out, List.map_append]; exact hO2)
          clear hO2 hg2 HOA HXA HPA HEA HBA HRW HAL HQ HR HS c0 c1 c2 c3 cA cx mw mw2 haN
          go_wp2_with fail
          go_roundw
          case rel => exact ⟨i + 1, HI.out, by go_num, HO5.out, HX5.out, HP5.out, HB5.out⟩
          case measure => have := HI.out; simp [RowKit.intOf]; omega
        · have h3 : x0 = 3 := by unfold okI at hio; omega
          subst h3
          rw [if_neg (by decide), if_neg (by decide)] at HFL HNM
          have HO5 : Hid (w4.ownsRow w.heap.size 75 2 (.slice la nn lc) (num f (i + 1)) ((frs f m (i + 1)).map (Value.int .i64))) := Lib.hid (by rw [HNM.out, HNX.out, HFL.out, List.append_nil]; exact HO.out)
          clear h1 h2 hio hnum
          go_wp2_with fail
          go_roundw
          case rel => exact ⟨i + 1, HI.out, by go_num, HO5.out, HX.out, HP.out, HB.out⟩
          case measure => have := HI.out; simp [RowKit.intOf]; omega
    · have e : i = m := by omega
      subst e
      clear hlt hnum
      have HNL := Lib.hid (num_le f i)
      go_wp2_with fail
      go_loopw [8, 82] (fun u v wr => ∃ j : Nat, j ≤ i ∧ v = .int .i64 j ∧ wr.ownsRow w.heap.size 75 2 u (num f i + j) ((frs f i i ++ tls i j).map (Value.int .i64)) ∧ Row wr pb 32 [.slice (some ⟨gb, 0, none⟩) N pc] ∧ PRow wr gb i ∧ Below w.heap.size w wr) (fun _ v _ => i - (RowKit.intOf v).toNat)
      case atStart => exact ⟨0, Nat.zero_le _, rfl, by rw [Nat.add_zero, show tls i 0 = [] from rfl, List.append_nil]; exact HO.out, HX.out, HP.out, HB.out⟩
      case round =>
        clear HX HP HB HO
        obtain ⟨j, hj, rfl, ho, hx, hp, hb⟩ := hrel
        obtain ⟨ja, jc, rfl⟩ := own_slice ho
        have HO := Lib.hid ho
        have HX := Lib.hid hx
        have HP := Lib.hid hp
        have HB := Lib.hid hb
        clear ho hx hp hb
        by_cases hlt : j < i
        · have hj2 : (j : Int) < (i : Int) := by omega
          have HJ := Lib.hid hlt
          have HTN := Lib.hid (tls_next i j)
          have HTL : Hid (tlL i j = [pz i (4 + 2 * j), pz i (5 + 2 * j)]) := Lib.hid rfl
          have cQ := HP.out.cell (i := 4 + 2 * j) (idx4 hlt)
          have cR := HP.out.cell (i := 5 + 2 * j) (idx5 hlt)
          have cx := HX.out.cell 0
          dsimp only [List.getElem?_cons_zero] at cx
          obtain ⟨zQ, hzQ⟩ : ∃ z, z = pz i (4 + 2 * j) := ⟨_, rfl⟩
          obtain ⟨zR, hzR⟩ : ∃ z, z = pz i (5 + 2 * j) := ⟨_, rfl⟩
          rw [← hzQ, ← hzR] at HTL
          rw [← hzQ] at cQ
          rw [← hzR] at cR
          clear hzQ hzR
          have HQ := Lib.hid (qr_aux j N (4 + 2 * j) (2 * j) pb gb 0 pc zQ wr cx (by rw [Nat.zero_add]; exact cQ) (wr2 (by omega)) (wr4 (by omega)) (by rw [HN.out]; exact idx4 hlt))
          have HR := Lib.hid (r_aux j N (5 + 2 * j) (2 * j) pb gb 0 pc zR wr cx (by rw [Nat.zero_add]; exact cR) (wr2 (by omega)) (wr5 (by omega)) (by rw [HN.out]; exact idx5 hlt))
          have HAL : Hid (Below wr.heap.size wr (wr.alloc (.cells #[.int .i64 zQ, .int .i64 zR] 75))) := Lib.hid ((Below.refl _ _).alloc (Nat.le_refl _) _)
          have HOA := Lib.hid (own_stays HO.out HAL.out)
          have HXA := Lib.hid (HX.out.keep HAL.out HX.out.lt)
          have HPA := Lib.hid (HP.out.keep HAL.out)
          have HBA := Lib.hid (HB.out.trans (HAL.out.mono HB.out.size))
          have HRW : Hid (Row (wr.alloc (.cells #[.int .i64 zQ, .int .i64 zR] 75)) wr.heap.size 75 [.int .i64 zQ, .int .i64 zR]) := Lib.hid (row_alloc wr _ _)
          have hnf : num f i + j ≤ 40 := by have := num_le f i; omega
          clear cQ cR cx
          generalize hnn9 : num f i + j = nj at *
          have HNJ := Lib.hid hnn9
          clear hnn9
          go_upto_region 21 with (first
            | (refine HQ.out.mono ?_; rintro e9 w9 ⟨rfl, hw9⟩; rw [hw9])
            | (refine HR.out.mono ?_; rintro e9 w9 ⟨rfl, hw9⟩; rw [hw9])
            | (at_builtin; refine wpList_app rfl _ _ 43 rfl w.heap.size 75 i0 _ 2 16 Tryz.underlying43 HI0.out HZ0.out HZ1.out HZ2.out rfl (by decide) _ nj _ rfl HOA.out wr.heap.size 1 1 [.int .i64 zQ, .int .i64 zR] rfl rfl HRW.out (by simp [Value.oneCell']) ?c1 ?c2 HBA.out.size (by omega) ?_))
          case c1 => unfold maxLen; omega
          case c2 => omega
          intro ao2 co2 w5 hO2 hg2
          have HX5 := Lib.hid (row_grown HOA.out hg2 HXA.out (by decide))
          have HP5 := Lib.hid (HPA.out.grown HOA.out hg2)
          have HB5 := Lib.hid (HBA.out.grown hg2 HBA.out.size (own_low HOA.out))
          have HO5 : Hid (w5.ownsRow w.heap.size 75 2 (.slice ao2 (nj + 1) co2) (num f i + (j + 1)) ((frs f i i ++ tls i (j + 1)).map (Value.int .i64))) := Lib.hid (by
            rw [HTN.out, HTL.out, List.map_append, List.map_append, ← Nat.add_assoc, HNJ.out]; exact hO2)
          clear hO2 hg2 HOA HXA HPA HBA HRW HAL HQ HR
          go_wp2_with fail
          go_roundw
          case rel => exact ⟨j + 1, HJ.out, by go_num, HO5.out, HX5.out, HP5.out, HB5.out⟩
          case measure => have := HJ.out; simp [RowKit.intOf]; omega
        · have e : j = i := by omega
          subst e
          clear hlt
          go_wp2_with fail
          go_ret2
          exact ⟨⟨_, rfl, HO.out⟩, HB.out⟩
    end Cr
    end Go.Proofs.YtfhhnajnanlmgaaGreatDoor
