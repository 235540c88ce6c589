/- WALK: line.size; line.table with what Compose and Widen ask of a window. -/
import Derived.Test.YtgefikkklbjcbaaDoorLnR
namespace Go.Proofs.YtgefikkklbjcbaaDoor
set_option linter.unusedSimpArgs false
set_option linter.unusedVariables false
open Go.RowKit
namespace Ln
open Tld Mem

/-- n numbers, of which the first k have been put. -/
def midI (f : Nat → Nat) (n k : Nat) : List Int := (List.range n).map fun j => if j < k then ((f j : Nat) : Int) else 0
theorem midI_len (f : Nat → Nat) (n k : Nat) : (midI f n k).length = n := by simp [midI]
theorem midI_zero (f : Nat → Nat) (n : Nat) : midI f n 0 = List.replicate n 0 := by
  apply List.ext_getElem (by simp [midI])
  intro i h1 h2
  simp [midI]
theorem midI_get (f : Nat → Nat) {n k j : Nat} (h : j < n) : (midI f n k)[j]? = some (if j < k then ((f j : Nat) : Int) else 0) := by
  unfold midI
  rw [List.getElem?_map, List.getElem?_range h]; rfl
theorem midI_next (f : Nat → Nat) {n k : Nat} (h : k < n) : (midI f n k).set k ((f k : Nat) : Int) = midI f n (k + 1) := by
  apply List.ext_getElem?
  intro j
  by_cases hj : j < n
  · rw [midI_get f hj]
    by_cases hk : k = j
    · subst hk
      rw [List.getElem?_set_self (by rw [midI_len]; exact h), if_pos (by omega)]
    · rw [List.getElem?_set_ne hk, midI_get f hj]
      by_cases h1 : j < k
      · rw [if_pos h1, if_pos (by omega)]
      · rw [if_neg h1, if_neg (by omega)]
  · rw [List.getElem?_eq_none (by rw [List.length_set, midI_len]; omega), List.getElem?_eq_none (by rw [midI_len]; omega)]
theorem midI_lst (f : Nat → Nat) (n : Nat) : midI f n n = lst n f := by
  unfold midI lst
  refine List.map_congr_left fun k hk => ?_
  rw [if_pos (List.mem_range.1 hk)]
/-- Cells from k on have been put into a window. -/
def endI (f : Nat → Nat) (ws : List Int) (n k : Nat) : List Int := (List.range n).map fun j => if j < k then ws.getD j 0 else ((f j : Nat) : Int)
theorem endI_len (f : Nat → Nat) (ws : List Int) (n k : Nat) : (endI f ws n k).length = n := by simp [endI]
theorem endI_get (f : Nat → Nat) (ws : List Int) {n k j : Nat} (h : j < n) : (endI f ws n k)[j]? = some (if j < k then ws.getD j 0 else ((f j : Nat) : Int)) := by
  unfold endI
  rw [List.getElem?_map, List.getElem?_range h]; rfl
theorem endI_all (f : Nat → Nat) (ws : List Int) : endI f ws ws.length ws.length = ws := by
  apply List.ext_getElem (by rw [endI_len])
  intro i h1 h2
  have := endI_get f ws (k := ws.length) h2
  rw [List.getElem?_eq_getElem h1, if_pos h2, List.getD_eq_getElem?_getD, List.getElem?_eq_getElem h2] at this
  exact Option.some.inj this
theorem endI_zero (f : Nat → Nat) (ws : List Int) (n : Nat) : endI f ws n 0 = lst n f := by
  unfold endI lst
  refine List.map_congr_left fun k _ => ?_
  rw [if_neg (by omega)]
theorem endI_next (f : Nat → Nat) (ws : List Int) {n k : Nat} (h : k < n) : (endI f ws n (k + 1)).set k ((f k : Nat) : Int) = endI f ws n k := by
  apply List.ext_getElem?
  intro j
  by_cases hj : j < n
  · rw [endI_get f ws hj]
    by_cases hk : k = j
    · subst hk
      rw [List.getElem?_set_self (by rw [endI_len]; exact h), if_neg (by omega)]
    · rw [List.getElem?_set_ne hk, endI_get f ws hj]
      by_cases h1 : j < k
      · rw [if_pos h1, if_pos (by omega)]
      · rw [if_neg h1, if_neg (by omega)]
  · rw [List.getElem?_eq_none (by rw [List.length_set, endI_len]; omega), List.getElem?_eq_none (by rw [endI_len]; omega)]
theorem set_mapI (zs : List Int) (k : Nat) (z : Int) : (zs.map (Value.int .i64)).set k (.int .i64 z) = (zs.set k z).map (Value.int .i64) := by rw [List.map_set]
theorem row_isN {w : World} {b n : Nat} {zs : List Int} (h : Row w b 3 (zs.map (Value.int .i64))) (hz : zs.length = n) (hn : n ≤ maxLen) : Ints.Is w (some ⟨b, 0, none⟩) n zs := by
  refine ⟨hz, fun i hi => ⟨b, 0, rfl, h.lt, ?_⟩, hn⟩
  dsimp only
  rw [Nat.zero_add, h.cell, List.getElem?_map, List.getElem?_eq_getElem (by omega), List.getD_eq_getElem?_getD, List.getElem?_eq_getElem (by omega)]
  rfl
/-- A table's size; 0: it would be too great. -/
def sz (st ra : Nat) : Nat := if st ^ (2 * ra + 1) ≤ 4096 then st ^ (2 * ra + 1) else 0
set_option maxHeartbeats 2000000 in
theorem size_any {st ra : Nat} (h2 : 2 ≤ st) (h4 : st ≤ 4) (hr : ra ≤ 10000) (w : World) : Calls Tryd.prog 28 #[.int .i64 st, .int .i64 ra] w fun e w' => e = .returned (.int .i64 (sz st ra : Nat)) ∧ w' = w := by
  obtain ⟨n, hn⟩ : ∃ n, n = 2 * ra + 1 := ⟨_, rfl⟩
  have hni : 2 * (ra : Int) + 1 = (n : Int) := by omega
  have HS : Hid (sz st ra = if st ^ n ≤ 4096 then st ^ n else 0) := by
    show sz st ra = _
    rw [hn]; rfl
  have hn2 : n ≤ 20001 := by omega
  have h1n : 1 ≤ n := by omega
  clear hn
  go_enter Tryd.func28, Tryd.ntmps28
  go_wp2_with fail
  go_loop [5, 9] (fun u v => ∃ i : Nat, i ≤ n ∧ v = .int .i64 i ∧ u = .int .i64 ((st ^ i : Nat) : Int) ∧ st ^ i ≤ 4096) (fun _ v => n - (intOf v).toNat)
  case atStart => exact ⟨0, Nat.zero_le _, rfl, rfl, by simp⟩
  case round =>
    obtain ⟨i, hi, rfl, rfl, hle⟩ := hrel
    by_cases hlt : i < n
    · have hmul : st ^ (i + 1) = st ^ i * st := Nat.pow_succ st i
      have hb : st ^ i * st ≤ 4096 * 4 := Nat.mul_le_mul hle h4
      have HMN : Hid (st ^ (i + 1) ≤ st ^ n) := Nat.pow_le_pow_right (by omega) hlt
      generalize hq : st ^ (i + 1) = q at *
      have HQ := Lib.hid hq
      clear hq
      generalize st ^ i = p at *
      have hw : IntKind.i64.wrap ((p : Int) * (st : Int)) = (q : Int) := by
        rw [hmul, show ((p : Int) * (st : Int)) = ((p * st : Nat) : Int) from by push_cast; rfl, IntKind.wrap_i64]; omega
      have hq1 : q ≤ 16384 := by omega
      clear hmul hb
      by_cases hgt : 4096 < q
      · have HF : Hid (sz st ra = 0) := by
          show sz st ra = 0
          have := HMN.out
          rw [HS.out, if_neg (by omega)]
        go_wp2_with fail
        go_ret
        exact ⟨congrArg (fun z : Nat => Ending.returned (.int .i64 (z : Int))) HF.out.symm, rfl⟩
      · go_wp2_with fail
        go_round
        case rel => exact ⟨i + 1, by omega, by go_num, by rw [HQ.out], by rw [HQ.out]; omega⟩
        case measure => simp [intOf]; omega
    · have e : i = n := by omega
      subst e
      have HF : Hid (sz st ra = st ^ i) := by
        show sz st ra = _
        rw [HS.out, if_pos hle]
      generalize st ^ i = p at *
      go_wp2_with fail
      go_ret
      exact ⟨congrArg (fun z : Nat => Ending.returned (.int .i64 (z : Int))) HF.out.symm, rfl⟩
/-- No rule. -/
def noRul : List Value := [.int .i64 0, .int .i64 0, .int .i64 0, .int .i64 0, .int .i64 0, .slice none 0 0, .string ⟨#[]⟩]
theorem rul_one (K B S st ra : Int) (ta : Option Addr) (tn tc : Nat) (tu : ByteArray) : ∀ v ∈ rulL K B S st ra ta tn tc tu, v.oneCell' = true := by simp [rulL, Value.oneCell']
set_option maxHeartbeats 8000000 in
set_option maxRecDepth 1000000 in
theorem ctable_any (st R N : Nat) (p q : Nat) (F : Nat → Nat) (w : World) (h2 : 2 ≤ st) (h4 : st ≤ 4) (hR : R ≤ 5) (hN : N = st ^ (2 * R + 1)) (hN4 : N ≤ 4096)
    (hF : ∀ (w2 : World), Below w.heap.size w w2 → ∀ i, i < N → ∀ g, Ints.Is w2 (some ⟨g, 0, none⟩) (2 * R + 1) (lst (2 * R + 1) (dig st (2 * R + 1) i)) → Calls Tryd.prog 30 #[.slice (some ⟨g, 0, none⟩) (2 * R + 1) (2 * R + 1), .pointer (some ⟨p, 0, none⟩), .pointer (some ⟨q, 0, none⟩)] w2 fun e w' => e = .returned (.int .i64 (F i : Nat)) ∧ Below w2.heap.size w2 w') :
    Calls Tryd.prog 29 #[.int .i64 st, .int .i64 R, .func (.func 30) #[] #[.pointer (some ⟨p, 0, none⟩), .pointer (some ⟨q, 0, none⟩)]] w fun e w' => (∃ g, e = .returned (.agg (rulL 2 0 0 st R (some ⟨g, 0, none⟩) N N ⟨#[]⟩).toArray) ∧ w.heap.size ≤ g ∧ Ints.Is w' (some ⟨g, 0, none⟩) N (lst N F)) ∧ Below w.heap.size w w' := by
  obtain ⟨i0, hI0, hz0, hz1, hz2⟩ := info_parts infoIntN
  have HI0 := Lib.hid hI0
  have HZ0 := Lib.hid hz0
  have HZ1 := Lib.hid hz1
  have HZ2 := Lib.hid hz2
  have HSZ := Lib.hid (fun w2 => size_any (st := st) (ra := R) h2 h4 (by omega) w2)
  rw [show sz st R = N from by unfold sz; rw [← hN, if_pos hN4]] at HSZ
  have HF := Lib.hid hF
  obtain ⟨ww, hww⟩ : ∃ ww, ww = 2 * R + 1 := ⟨_, rfl⟩
  rw [← hww] at HF
  have hwi : 2 * (R : Int) + 1 = (ww : Int) := by omega
  have hw11 : ww ≤ 11 := by omega
  have hw1 : 1 ≤ ww := by omega
  have HN := Lib.hid hN
  clear hI0 hz0 hz1 hz2 hF hww hN
  go_enter Tryd.func29, Tryd.ntmps29
  go_wp2_with fail
  have h6a := row_alloc w 24 noRul
  have hBa : Below w.heap.size w (w.alloc (.cells noRul.toArray 24)) := (Below.refl _ _).alloc (Nat.le_refl _) _
  have H6 : Hid (Row (w.alloc (.cells #[.int .i64 0, .int .i64 0, .int .i64 0, .int .i64 0, .int .i64 0, .slice none 0 0, .string ⟨#[]⟩] 24)) w.heap.size 24 noRul) := h6a
  have HB : Hid (Below w.heap.size w (w.alloc (.cells #[.int .i64 0, .int .i64 0, .int .i64 0, .int .i64 0, .int .i64 0, .slice none 0 0, .string ⟨#[]⟩] 24))) := hBa
  clear h6a hBa
  generalize w.alloc (.cells #[.int .i64 0, .int .i64 0, .int .i64 0, .int .i64 0, .int .i64 0, .slice none 0 0, .string ⟨#[]⟩] 24) = w1 at *
  refine (HSZ.out _).mono ?_
  rintro e1 w2 ⟨rfl, rfl⟩
  go_upto_region 2 with (refine Ops.wpList_make rfl 22 _ _ rfl 3 i0 (.int .i64 0) Tryd.underlying22 HI0.out HZ0.out rfl HZ1.out (by rw [HZ2.out]; decide) N rfl rfl (by omega) ?_; intro gt w3 hgt hb3 hRt)
  have H6b := Lib.hid (H6.out.keep hb3 H6.out.lt)
  have HBb := Lib.hid (HB.out.trans (hb3.mono HB.out.size))
  have hgt1 : w.heap.size < gt := by have := H6.out.lt; omega
  have h7a := row_alloc w3 24 (rulL 2 0 0 st R (some ⟨gt, 0, none⟩) N N ⟨#[]⟩)
  have hb4 : Below w3.heap.size w3 (w3.alloc (.cells (rulL 2 0 0 st R (some ⟨gt, 0, none⟩) N N ⟨#[]⟩).toArray 24)) := (Below.refl _ _).alloc (Nat.le_refl _) _
  have H7 : Hid (Row (w3.alloc (.cells #[.int .i64 2, .int .i64 0, .int .i64 0, .int .i64 st, .int .i64 R, .slice (some ⟨gt, 0, none⟩) N N, .string ⟨#[]⟩] 24)) w3.heap.size 24 (rulL 2 0 0 st R (some ⟨gt, 0, none⟩) N N ⟨#[]⟩)) := h7a
  have hb4' : Below w3.heap.size w3 (w3.alloc (.cells #[.int .i64 2, .int .i64 0, .int .i64 0, .int .i64 st, .int .i64 R, .slice (some ⟨gt, 0, none⟩) N N, .string ⟨#[]⟩] 24)) := hb4
  have H6 := Lib.hid (H6b.out.keep hb4' H6b.out.lt)
  have HT := Lib.hid (hRt.keep hb4' hRt.lt)
  have HB := Lib.hid (HBb.out.trans (hb4'.mono HBb.out.size))
  have hlt7 : gt < w3.heap.size := hRt.lt
  clear H6b HBb h7a hb4 hb4' hRt hb3 HSZ
  generalize w3.alloc (.cells #[.int .i64 2, .int .i64 0, .int .i64 0, .int .i64 st, .int .i64 R, .slice (some ⟨gt, 0, none⟩) N N, .string ⟨#[]⟩] 24) = w4 at *
  obtain ⟨b7, hb7⟩ : ∃ b, b = w3.heap.size := ⟨_, rfl⟩
  rw [← hb7] at H7 hlt7 ⊢
  clear hb7
  go_upto_region 3 with (refine Ops.wpList_make rfl 22 _ _ rfl 3 i0 (.int .i64 0) Tryd.underlying22 HI0.out HZ0.out rfl HZ1.out (by rw [HZ2.out]; decide) ww rfl rfl (by omega) ?_; intro gw w5 hgw hb5 hRw)
  have hlw : b7 < gw := by have := H7.out.lt; omega
  have H6 := Lib.hid (H6.out.keep hb5 H6.out.lt)
  have H7 := Lib.hid (H7.out.keep hb5 H7.out.lt)
  have HT := Lib.hid (HT.out.keep hb5 HT.out.lt)
  have HB := Lib.hid (HB.out.trans (hb5.mono HB.out.size))
  have HT0 : Hid (Row w5 gt 3 ((midI F N 0).map (Value.int .i64))) := by
    show Row w5 gt 3 _
    rw [midI_zero, List.map_replicate]; exact HT.out
  have HW0 : Hid (∃ ws : List Int, ws.length = ww ∧ Row w5 gw 3 (ws.map (Value.int .i64))) := ⟨List.replicate ww 0, by simp, by rw [List.map_replicate]; exact hRw⟩
  have f5 := H7.out.cell 5
  unfold rulL at f5
  dsimp only [List.getElem?_cons_succ, List.getElem?_cons_zero] at f5
  clear HT hRw hb5 hgw
  go_wp2_with fail
  clear f5
  go_loopw [26] (fun v wr => ∃ i : Nat, i ≤ N ∧ v = .int .i64 i ∧ Row wr w.heap.size 24 noRul ∧ Row wr b7 24 (rulL 2 0 0 st R (some ⟨gt, 0, none⟩) N N ⟨#[]⟩) ∧ Row wr gt 3 ((midI F N i).map (Value.int .i64)) ∧ (∃ ws : List Int, ws.length = ww ∧ Row wr gw 3 (ws.map (Value.int .i64))) ∧ Below w.heap.size w wr) (fun v _ => N - (intOf v).toNat)
  case atStart => exact ⟨0, Nat.zero_le _, rfl, H6.out, H7.out, HT0.out, HW0.out, HB.out⟩
  case round =>
    clear H6 H7 HT0 HW0 HB
    obtain ⟨i, hi, rfl, h6, h7, hT, ⟨ws, hwsl, hW⟩, hbel⟩ := hrel
    have H6 := Lib.hid h6
    have H7 := Lib.hid h7
    have HT := Lib.hid hT
    have HB := Lib.hid hbel
    have HWS := Lib.hid hwsl
    have HW : Hid (Row wr gw 3 ((endI (dig st ww i) ws ww ww).map (Value.int .i64))) := by
      show Row wr gw 3 _
      rw [← hwsl, endI_all]; exact hW
    clear h6 h7 hT hbel hwsl hW
    by_cases hlt : i < N
    · go_wp2_with fail
      obtain ⟨wo, rfl⟩ : ∃ wo : World, wo = wr := ⟨_, rfl⟩
      go_loopw [10, 11] (fun u v wr => ∃ k : Nat, k ≤ ww ∧ v = .int .i64 ((k : Int) - 1) ∧ u = .int .i64 ((i / st ^ (ww - k) : Nat) : Int) ∧ Row wr gw 3 ((endI (dig st ww i) ws ww k).map (Value.int .i64)) ∧ Only gw wo wr) (fun _ v _ => (intOf v + 1).toNat)
      case atStart => exact ⟨ww, Nat.le_refl _, rfl, by rw [Nat.sub_self, Nat.pow_zero, Nat.div_one], HW.out, Only.refl _ _⟩
      case round =>
        clear HW
        obtain ⟨k, hk, rfl, rfl, hW, ho⟩ := hrel
        have HW := Lib.hid hW
        have HO := Lib.hid ho
        clear hW ho
        by_cases hk0 : 0 < k
        · obtain ⟨j, rfl⟩ : ∃ j, k = j + 1 := ⟨k - 1, by omega⟩
          have hji : ((j + 1 : Nat) : Int) - 1 = (j : Int) := by omega
          rw [hji]
          have hjw : j < ww := by omega
          have hqm : ((i / st ^ (ww - (j + 1)) : Nat) : Int).tmod (st : Int) = ((dig st ww i j : Nat) : Int) := by
            rw [show dig st ww i j = i / st ^ (ww - (j + 1)) % st from by unfold dig; rw [show ww - 1 - j = ww - (j + 1) from by omega]]
            exact Int.ofNat_tmod _ _
          have hqd : ((i / st ^ (ww - (j + 1)) : Nat) : Int).tdiv (st : Int) = ((i / st ^ (ww - j) : Nat) : Int) := by
            rw [show i / st ^ (ww - j) = i / st ^ (ww - (j + 1)) / st from by rw [Nat.div_div_eq_div_mul, ← Nat.pow_succ]; congr 2; omega]
            exact Int.ofNat_tdiv _ _
          have hq4 : i / st ^ (ww - (j + 1)) ≤ i := Nat.div_le_self _ _
          have hq5 : i / st ^ (ww - j) ≤ i := Nat.div_le_self _ _
          have hst0 : ((st : Int) == 0) = false := by rw [beq_eq_false_iff_ne]; omega
          have hcell := (HW.out.cell j).trans (show ((endI (dig st ww i) ws ww (j + 1)).map (Value.int .i64))[j]? = some (.int .i64 (ws.getD j 0)) by rw [List.getElem?_map, endI_get _ _ hjw, if_pos (by omega)]; rfl)
          have hfrz := HW.out.frozen j
          have hset := HW.out.set j (.int .i64 ((dig st ww i j : Nat) : Int))
          rw [set_mapI, endI_next _ _ hjw] at hset
          have HSET := Lib.hid hset
          have HO2 := Lib.hid (HO.out.trans (only_setCell wr gw j (.int .i64 ((dig st ww i j : Nat) : Int))))
          clear hset HW HO
          generalize ws.getD j 0 = old at *
          generalize hdg : dig st ww i j = dg at *
          clear hdg
          generalize i / st ^ (ww - (j + 1)) = qn at *
          generalize hq2 : i / st ^ (ww - j) = qn2 at *
          have HQ2 := Lib.hid hq2
          clear hq2
          go_wp2_with fail
          exact ⟨⟨j, by omega, by first | rfl | simp, by rw [HQ2.out], HSET.out, HO2.out⟩, by simp [intOf]⟩
        · obtain rfl : k = 0 := by omega
          rw [endI_zero] at HW
          have hne7 : b7 ≠ gw := by omega
          have hnet : gt ≠ gw := by omega
          have H6 := Lib.hid (H6.out.other HO.out (by omega))
          have H7 := Lib.hid (H7.out.other HO.out hne7)
          have HT := Lib.hid (HT.out.other HO.out hnet)
          have HB := Lib.hid (HB.out.trans (HO.out.below (by omega)))
          have HFC := Lib.hid (HF.out wr.drew HB.out.drew i hlt gw ((row_isN HW.out (by rw [lst_len]) (by unfold maxLen; omega)).keep (Below.refl _ _).drew))
          have f5 := H7.out.cell 5
          unfold rulL at f5
          dsimp only [List.getElem?_cons_succ, List.getElem?_cons_zero] at f5
          have HGET : Hid (((midI F N i).map (Value.int .i64))[i]? = some (.int .i64 0)) := by
            show ((midI F N i).map (Value.int .i64))[i]? = _
            rw [List.getElem?_map, midI_get _ hlt, if_neg (by omega)]; rfl
          have HNX := Lib.hid (midI_next F hlt)
          clear HO
          generalize hFi : F i = fi at *
          clear hFi
          go_wp2_with fail
          go_region_with (first
            | (go_at_call 30
               refine HFC.out.mono ?_
               rintro e1 w6 ⟨rfl, hb6⟩
               have f5b := (H7.out.drew.keep hb6 H7.out.drew.lt).cell 5
               unfold rulL at f5b
               dsimp only [List.getElem?_cons_succ, List.getElem?_cons_zero] at f5b
               have c6 := ((HT.out.drew.keep hb6 HT.out.drew.lt).cell i).trans HGET.out
               have z6 := (HT.out.drew.keep hb6 HT.out.drew.lt).frozen i))
          all_goals
            have hTs := (HT.out.drew.keep hb6 HT.out.drew.lt).set i (.int .i64 ((fi : Nat) : Int))
            rw [set_mapI, HNX.out] at hTs
            have hon := only_setCell w6 gt i (.int .i64 ((fi : Nat) : Int))
            have HTs := Lib.hid hTs
            have H6s := Lib.hid ((H6.out.drew.keep hb6 H6.out.drew.lt).other hon (by omega))
            have H7s := Lib.hid ((H7.out.drew.keep hb6 H7.out.drew.lt).other hon (by omega))
            have HWs := Lib.hid ((HW.out.drew.keep hb6 HW.out.drew.lt).other hon (by omega))
            have HBs := Lib.hid ((HB.out.drew.trans (hb6.mono HB.out.drew.size)).trans (hon.below (by omega)))
            clear hTs hon f5 f5b c6 z6 hb6 HFC
            generalize w6.setCell ⟨gt, i, none⟩ (.int .i64 ((fi : Nat) : Int)) = w7 at *
            go_wp2_with fail
            go_roundw
            case rel => exact ⟨i + 1, by omega, by go_num, H6s.out, H7s.out, HTs.out, ⟨_, by rw [lst_len], HWs.out⟩, HBs.out⟩
            case measure => simp [intOf]; omega
    · have ei : i = N := by omega
      subst ei
      have l7 := row_range H7.out
      rw [midI_lst] at HT
      go_wp2_with (first | (refine wpList_load_mid rfl 24 _ rfl b7 0 rfl _ _ l7 Tryd.underlying24 rfl infoRule ?_) | (refine Ops.wpList_store_arr rfl 24 _ _ rfl w.heap.size rfl 24 _ _ rfl H6.out rfl infoRule (rul_one _ _ _ _ _ _ _ _ _) ?_; intro w8 hrow8 hon8))
      have hI := row_isN (n := i) (HT.out.other hon8 (by omega)) (by rw [lst_len]) (by unfold maxLen; omega)
      exact bodyPost_ret (results_cell_row rfl _ _ w.heap.size 24 (rulL 2 0 0 st R (some ⟨gt, 0, none⟩) i i ⟨#[]⟩).toArray (0, 0) _ rfl hrow8 Tryd.underlying24 rfl infoRule) rfl ⟨⟨gt, rfl, by omega, hI⟩, HB.out.trans (hon8.below (Nat.le_refl _))⟩
set_option maxHeartbeats 8000000 in
set_option maxRecDepth 1000000 in
theorem wtable_any (st R N : Nat) (p q : Nat) (F : Nat → Nat) (w : World) (h2 : 2 ≤ st) (h4 : st ≤ 4) (hR : R ≤ 5) (hN : N = st ^ (2 * R + 1)) (hN4 : N ≤ 4096)
    (hF : ∀ (w2 : World), Below w.heap.size w w2 → ∀ i, i < N → ∀ g, Ints.Is w2 (some ⟨g, 0, none⟩) (2 * R + 1) (lst (2 * R + 1) (dig st (2 * R + 1) i)) → Calls Tryd.prog 32 #[.slice (some ⟨g, 0, none⟩) (2 * R + 1) (2 * R + 1), .pointer (some ⟨p, 0, none⟩), .pointer (some ⟨q, 0, none⟩)] w2 fun e w' => e = .returned (.int .i64 (F i : Nat)) ∧ Below w2.heap.size w2 w') :
    Calls Tryd.prog 29 #[.int .i64 st, .int .i64 R, .func (.func 32) #[] #[.pointer (some ⟨p, 0, none⟩), .pointer (some ⟨q, 0, none⟩)]] w fun e w' => (∃ g, e = .returned (.agg (rulL 2 0 0 st R (some ⟨g, 0, none⟩) N N ⟨#[]⟩).toArray) ∧ w.heap.size ≤ g ∧ Ints.Is w' (some ⟨g, 0, none⟩) N (lst N F)) ∧ Below w.heap.size w w' := by
  obtain ⟨i0, hI0, hz0, hz1, hz2⟩ := info_parts infoIntN
  have HI0 := Lib.hid hI0
  have HZ0 := Lib.hid hz0
  have HZ1 := Lib.hid hz1
  have HZ2 := Lib.hid hz2
  have HSZ := Lib.hid (fun w2 => size_any (st := st) (ra := R) h2 h4 (by omega) w2)
  rw [show sz st R = N from by unfold sz; rw [← hN, if_pos hN4]] at HSZ
  have HF := Lib.hid hF
  obtain ⟨ww, hww⟩ : ∃ ww, ww = 2 * R + 1 := ⟨_, rfl⟩
  rw [← hww] at HF
  have hwi : 2 * (R : Int) + 1 = (ww : Int) := by omega
  have hw11 : ww ≤ 11 := by omega
  have hw1 : 1 ≤ ww := by omega
  have HN := Lib.hid hN
  clear hI0 hz0 hz1 hz2 hF hww hN
  go_enter Tryd.func29, Tryd.ntmps29
  go_wp2_with fail
  have h6a := row_alloc w 24 noRul
  have hBa : Below w.heap.size w (w.alloc (.cells noRul.toArray 24)) := (Below.refl _ _).alloc (Nat.le_refl _) _
  have H6 : Hid (Row (w.alloc (.cells #[.int .i64 0, .int .i64 0, .int .i64 0, .int .i64 0, .int .i64 0, .slice none 0 0, .string ⟨#[]⟩] 24)) w.heap.size 24 noRul) := h6a
  have HB : Hid (Below w.heap.size w (w.alloc (.cells #[.int .i64 0, .int .i64 0, .int .i64 0, .int .i64 0, .int .i64 0, .slice none 0 0, .string ⟨#[]⟩] 24))) := hBa
  clear h6a hBa
  generalize w.alloc (.cells #[.int .i64 0, .int .i64 0, .int .i64 0, .int .i64 0, .int .i64 0, .slice none 0 0, .string ⟨#[]⟩] 24) = w1 at *
  refine (HSZ.out _).mono ?_
  rintro e1 w2 ⟨rfl, rfl⟩
  go_upto_region 2 with (refine Ops.wpList_make rfl 22 _ _ rfl 3 i0 (.int .i64 0) Tryd.underlying22 HI0.out HZ0.out rfl HZ1.out (by rw [HZ2.out]; decide) N rfl rfl (by omega) ?_; intro gt w3 hgt hb3 hRt)
  have H6b := Lib.hid (H6.out.keep hb3 H6.out.lt)
  have HBb := Lib.hid (HB.out.trans (hb3.mono HB.out.size))
  have hgt1 : w.heap.size < gt := by have := H6.out.lt; omega
  have h7a := row_alloc w3 24 (rulL 2 0 0 st R (some ⟨gt, 0, none⟩) N N ⟨#[]⟩)
  have hb4 : Below w3.heap.size w3 (w3.alloc (.cells (rulL 2 0 0 st R (some ⟨gt, 0, none⟩) N N ⟨#[]⟩).toArray 24)) := (Below.refl _ _).alloc (Nat.le_refl _) _
  have H7 : Hid (Row (w3.alloc (.cells #[.int .i64 2, .int .i64 0, .int .i64 0, .int .i64 st, .int .i64 R, .slice (some ⟨gt, 0, none⟩) N N, .string ⟨#[]⟩] 24)) w3.heap.size 24 (rulL 2 0 0 st R (some ⟨gt, 0, none⟩) N N ⟨#[]⟩)) := h7a
  have hb4' : Below w3.heap.size w3 (w3.alloc (.cells #[.int .i64 2, .int .i64 0, .int .i64 0, .int .i64 st, .int .i64 R, .slice (some ⟨gt, 0, none⟩) N N, .string ⟨#[]⟩] 24)) := hb4
  have H6 := Lib.hid (H6b.out.keep hb4' H6b.out.lt)
  have HT := Lib.hid (hRt.keep hb4' hRt.lt)
  have HB := Lib.hid (HBb.out.trans (hb4'.mono HBb.out.size))
  have hlt7 : gt < w3.heap.size := hRt.lt
  clear H6b HBb h7a hb4 hb4' hRt hb3 HSZ
  generalize w3.alloc (.cells #[.int .i64 2, .int .i64 0, .int .i64 0, .int .i64 st, .int .i64 R, .slice (some ⟨gt, 0, none⟩) N N, .string ⟨#[]⟩] 24) = w4 at *
  obtain ⟨b7, hb7⟩ : ∃ b, b = w3.heap.size := ⟨_, rfl⟩
  rw [← hb7] at H7 hlt7 ⊢
  clear hb7
  go_upto_region 3 with (refine Ops.wpList_make rfl 22 _ _ rfl 3 i0 (.int .i64 0) Tryd.underlying22 HI0.out HZ0.out rfl HZ1.out (by rw [HZ2.out]; decide) ww rfl rfl (by omega) ?_; intro gw w5 hgw hb5 hRw)
  have hlw : b7 < gw := by have := H7.out.lt; omega
  have H6 := Lib.hid (H6.out.keep hb5 H6.out.lt)
  have H7 := Lib.hid (H7.out.keep hb5 H7.out.lt)
  have HT := Lib.hid (HT.out.keep hb5 HT.out.lt)
  have HB := Lib.hid (HB.out.trans (hb5.mono HB.out.size))
  have HT0 : Hid (Row w5 gt 3 ((midI F N 0).map (Value.int .i64))) := by
    show Row w5 gt 3 _
    rw [midI_zero, List.map_replicate]; exact HT.out
  have HW0 : Hid (∃ ws : List Int, ws.length = ww ∧ Row w5 gw 3 (ws.map (Value.int .i64))) := ⟨List.replicate ww 0, by simp, by rw [List.map_replicate]; exact hRw⟩
  have f5 := H7.out.cell 5
  unfold rulL at f5
  dsimp only [List.getElem?_cons_succ, List.getElem?_cons_zero] at f5
  clear HT hRw hb5 hgw
  go_wp2_with fail
  clear f5
  go_loopw [26] (fun v wr => ∃ i : Nat, i ≤ N ∧ v = .int .i64 i ∧ Row wr w.heap.size 24 noRul ∧ Row wr b7 24 (rulL 2 0 0 st R (some ⟨gt, 0, none⟩) N N ⟨#[]⟩) ∧ Row wr gt 3 ((midI F N i).map (Value.int .i64)) ∧ (∃ ws : List Int, ws.length = ww ∧ Row wr gw 3 (ws.map (Value.int .i64))) ∧ Below w.heap.size w wr) (fun v _ => N - (intOf v).toNat)
  case atStart => exact ⟨0, Nat.zero_le _, rfl, H6.out, H7.out, HT0.out, HW0.out, HB.out⟩
  case round =>
    clear H6 H7 HT0 HW0 HB
    obtain ⟨i, hi, rfl, h6, h7, hT, ⟨ws, hwsl, hW⟩, hbel⟩ := hrel
    have H6 := Lib.hid h6
    have H7 := Lib.hid h7
    have HT := Lib.hid hT
    have HB := Lib.hid hbel
    have HWS := Lib.hid hwsl
    have HW : Hid (Row wr gw 3 ((endI (dig st ww i) ws ww ww).map (Value.int .i64))) := by
      show Row wr gw 3 _
      rw [← hwsl, endI_all]; exact hW
    clear h6 h7 hT hbel hwsl hW
    by_cases hlt : i < N
    · go_wp2_with fail
      obtain ⟨wo, rfl⟩ : ∃ wo : World, wo = wr := ⟨_, rfl⟩
      go_loopw [10, 11] (fun u v wr => ∃ k : Nat, k ≤ ww ∧ v = .int .i64 ((k : Int) - 1) ∧ u = .int .i64 ((i / st ^ (ww - k) : Nat) : Int) ∧ Row wr gw 3 ((endI (dig st ww i) ws ww k).map (Value.int .i64)) ∧ Only gw wo wr) (fun _ v _ => (intOf v + 1).toNat)
      case atStart => exact ⟨ww, Nat.le_refl _, rfl, by rw [Nat.sub_self, Nat.pow_zero, Nat.div_one], HW.out, Only.refl _ _⟩
      case round =>
        clear HW
        obtain ⟨k, hk, rfl, rfl, hW, ho⟩ := hrel
        have HW := Lib.hid hW
        have HO := Lib.hid ho
        clear hW ho
        by_cases hk0 : 0 < k
        · obtain ⟨j, rfl⟩ : ∃ j, k = j + 1 := ⟨k - 1, by omega⟩
          have hji : ((j + 1 : Nat) : Int) - 1 = (j : Int) := by omega
          rw [hji]
          have hjw : j < ww := by omega
          have hqm : ((i / st ^ (ww - (j + 1)) : Nat) : Int).tmod (st : Int) = ((dig st ww i j : Nat) : Int) := by
            rw [show dig st ww i j = i / st ^ (ww - (j + 1)) % st from by unfold dig; rw [show ww - 1 - j = ww - (j + 1) from by omega]]
            exact Int.ofNat_tmod _ _
          have hqd : ((i / st ^ (ww - (j + 1)) : Nat) : Int).tdiv (st : Int) = ((i / st ^ (ww - j) : Nat) : Int) := by
            rw [show i / st ^ (ww - j) = i / st ^ (ww - (j + 1)) / st from by rw [Nat.div_div_eq_div_mul, ← Nat.pow_succ]; congr 2; omega]
            exact Int.ofNat_tdiv _ _
          have hq4 : i / st ^ (ww - (j + 1)) ≤ i := Nat.div_le_self _ _
          have hq5 : i / st ^ (ww - j) ≤ i := Nat.div_le_self _ _
          have hst0 : ((st : Int) == 0) = false := by rw [beq_eq_false_iff_ne]; omega
          have hcell := (HW.out.cell j).trans (show ((endI (dig st ww i) ws ww (j + 1)).map (Value.int .i64))[j]? = some (.int .i64 (ws.getD j 0)) by rw [List.getElem?_map, endI_get _ _ hjw, if_pos (by omega)]; rfl)
          have hfrz := HW.out.frozen j
          have hset := HW.out.set j (.int .i64 ((dig st ww i j : Nat) : Int))
          rw [set_mapI, endI_next _ _ hjw] at hset
          have HSET := Lib.hid hset
          have HO2 := Lib.hid (HO.out.trans (only_setCell wr gw j (.int .i64 ((dig st ww i j : Nat) : Int))))
          clear hset HW HO
          generalize ws.getD j 0 = old at *
          generalize hdg : dig st ww i j = dg at *
          clear hdg
          generalize i / st ^ (ww - (j + 1)) = qn at *
          generalize hq2 : i / st ^ (ww - j) = qn2 at *
          have HQ2 := Lib.hid hq2
          clear hq2
          go_wp2_with fail
          exact ⟨⟨j, by omega, by first | rfl | simp, by rw [HQ2.out], HSET.out, HO2.out⟩, by simp [intOf]⟩
        · obtain rfl : k = 0 := by omega
          rw [endI_zero] at HW
          have hne7 : b7 ≠ gw := by omega
          have hnet : gt ≠ gw := by omega
          have H6 := Lib.hid (H6.out.other HO.out (by omega))
          have H7 := Lib.hid (H7.out.other HO.out hne7)
          have HT := Lib.hid (HT.out.other HO.out hnet)
          have HB := Lib.hid (HB.out.trans (HO.out.below (by omega)))
          have HFC := Lib.hid (HF.out wr.drew HB.out.drew i hlt gw ((row_isN HW.out (by rw [lst_len]) (by unfold maxLen; omega)).keep (Below.refl _ _).drew))
          have f5 := H7.out.cell 5
          unfold rulL at f5
          dsimp only [List.getElem?_cons_succ, List.getElem?_cons_zero] at f5
          have HGET : Hid (((midI F N i).map (Value.int .i64))[i]? = some (.int .i64 0)) := by
            show ((midI F N i).map (Value.int .i64))[i]? = _
            rw [List.getElem?_map, midI_get _ hlt, if_neg (by omega)]; rfl
          have HNX := Lib.hid (midI_next F hlt)
          clear HO
          generalize hFi : F i = fi at *
          clear hFi
          go_wp2_with fail
          go_region_with (first
            | (go_at_call 32
               refine HFC.out.mono ?_
               rintro e1 w6 ⟨rfl, hb6⟩
               have f5b := (H7.out.drew.keep hb6 H7.out.drew.lt).cell 5
               unfold rulL at f5b
               dsimp only [List.getElem?_cons_succ, List.getElem?_cons_zero] at f5b
               have c6 := ((HT.out.drew.keep hb6 HT.out.drew.lt).cell i).trans HGET.out
               have z6 := (HT.out.drew.keep hb6 HT.out.drew.lt).frozen i))
          all_goals
            have hTs := (HT.out.drew.keep hb6 HT.out.drew.lt).set i (.int .i64 ((fi : Nat) : Int))
            rw [set_mapI, HNX.out] at hTs
            have hon := only_setCell w6 gt i (.int .i64 ((fi : Nat) : Int))
            have HTs := Lib.hid hTs
            have H6s := Lib.hid ((H6.out.drew.keep hb6 H6.out.drew.lt).other hon (by omega))
            have H7s := Lib.hid ((H7.out.drew.keep hb6 H7.out.drew.lt).other hon (by omega))
            have HWs := Lib.hid ((HW.out.drew.keep hb6 HW.out.drew.lt).other hon (by omega))
            have HBs := Lib.hid ((HB.out.drew.trans (hb6.mono HB.out.drew.size)).trans (hon.below (by omega)))
            clear hTs hon f5 f5b c6 z6 hb6 HFC
            generalize w6.setCell ⟨gt, i, none⟩ (.int .i64 ((fi : Nat) : Int)) = w7 at *
            go_wp2_with fail
            go_roundw
            case rel => exact ⟨i + 1, by omega, by go_num, H6s.out, H7s.out, HTs.out, ⟨_, by rw [lst_len], HWs.out⟩, HBs.out⟩
            case measure => simp [intOf]; omega
    · have ei : i = N := by omega
      subst ei
      have l7 := row_range H7.out
      rw [midI_lst] at HT
      go_wp2_with (first | (refine wpList_load_mid rfl 24 _ rfl b7 0 rfl _ _ l7 Tryd.underlying24 rfl infoRule ?_) | (refine Ops.wpList_store_arr rfl 24 _ _ rfl w.heap.size rfl 24 _ _ rfl H6.out rfl infoRule (rul_one _ _ _ _ _ _ _ _ _) ?_; intro w8 hrow8 hon8))
      have hI := row_isN (n := i) (HT.out.other hon8 (by omega)) (by rw [lst_len]) (by unfold maxLen; omega)
      exact bodyPost_ret (results_cell_row rfl _ _ w.heap.size 24 (rulL 2 0 0 st R (some ⟨gt, 0, none⟩) i i ⟨#[]⟩).toArray (0, 0) _ rfl hrow8 Tryd.underlying24 rfl infoRule) rfl ⟨⟨gt, rfl, by omega, hI⟩, HB.out.trans (hon8.below (Nat.le_refl _))⟩
end Ln
end Go.Proofs.YtgefikkklbjcbaaDoor
