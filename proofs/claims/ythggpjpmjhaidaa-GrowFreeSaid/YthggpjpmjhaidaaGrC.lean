/- WALKS: counts of letters (package grow). -/
import Derived.Test.YthggpjpmjhaidaaGrW
namespace Go.Proofs.Ythggpjpmjhaidaa
open Go.RowKit
namespace Gr
open Tld Mem

theorem infoArr : (Try.prog.info? 75).map (·.size) = some 8 := by kernel_rfl
theorem infoCounts : (Try.prog.info? 76).map (·.size) = some 8 := by kernel_rfl

set_option maxHeartbeats 2000000 in
theorem of_any (word : ByteArray) (w : World) (hw : word.size ≤ 40000) (hl : letters 8 word.data.toList = true) :
    Calls Try.prog 38 #[.string word] w fun e w' => e = .returned (.agg (arr (cnt word.data.toList)).toArray) ∧ Below w.heap.size w w' := by
  have HL := Lib.hid hl
  clear hl
  go_enter Try.func38, Try.ntmps38
  go_wp2_with (refine Ops.wpList_bytes _ rfl 9 69 5 _ rfl Try.underlying9 Try.underlying69 Try.underlying5 _ rfl ?_; intro cap b C w2 hb hsl hb2 hcell)
  have HC := Lib.hid hcell
  have hR0 : Row (w.alloc (.cells #[.int .i64 0, .int .i64 0, .int .i64 0, .int .i64 0, .int .i64 0, .int .i64 0, .int .i64 0, .int .i64 0] 76)) w.heap.size 76 (arr (cnt [])) := row_alloc w 76 (arr (cnt []))
  have hR := hR0.keep hb2 (by simp)
  have hb3 : Below w.heap.size w w2 := ((Below.refl _ _).alloc (Nat.le_refl _) _).trans (hb2.mono (by simp))
  have hqb : b ≠ w.heap.size := by simp at hb; omega
  have HR := Lib.hid hR
  have HS := Lib.hid hsl
  clear hcell hb2 hb hR0 hR hsl
  obtain ⟨q, hq⟩ : ∃ q, q = w.heap.size := ⟨_, rfl⟩
  simp only [← hq] at hb3 hqb HR ⊢
  have HQ := Lib.hid hq
  clear hq
  go_loopw [8] (fun v w3 => ∃ j : Nat, j ≤ word.size ∧ v = .int .i64 j ∧ Row w3 q 76 (arr (cnt (word.data.toList.take j))) ∧ Sealed w3 b C ∧ Below q w w3) (fun v _ => word.size - (intOf v).toNat)
  case atStart => exact ⟨0, Nat.zero_le _, rfl, HR.out, HS.out, hb3⟩
  case round =>
    obtain ⟨j, hj, rfl, hR3, hsl3, hb4⟩ := hrel
    have HS3 := Lib.hid hsl3
    have HR3 := Lib.hid hR3
    clear hsl3 hR3
    by_cases hjl : j < word.size
    · have hjl' : j < word.data.toList.length := by rw [← Lib.size_eq]; exact hjl
      have hc : wr.cell? ⟨b, j, none⟩ = some (.int .u8 ((word.data.toList.getD j 0).toNat : Int)) := (HS3.out.cell j).trans (HC.out j hjl)
      have hlt' := isLetter_lt (letters_mem HL.out (getD_mem hjl'))
      have HT := Lib.hid (take_snoc hjl')
      clear hjl'
      generalize word.data.toList.getD j 0 = x at *
      have hx : x.toNat < 256 := x.toNat_lt
      obtain ⟨hx1, hx2⟩ := hlt'
      have hc0 := cnt_le (word.data.toList.take j) (x.toNat - 97)
      have hlen := List.length_take_le j word.data.toList
      have HA := Lib.hid (arr_snoc (word.data.toList.take j) x hx1 hx2)
      have hcx : wr.cell? ⟨q, x.toNat - 97, none⟩ = some (.int .i64 (cnt (word.data.toList.take j) (x.toNat - 97) : Nat)) := (HR3.out.cell _).trans (arr_get _ hx2)
      have hfx : wr.frozen? ⟨q, x.toNat - 97, none⟩ = false := HR3.out.frozen _
      have HRS := Lib.hid (HR3.out.set (x.toNat - 97) (.int .i64 ((cnt (word.data.toList.take j) (x.toNat - 97) : Int) + 1)))
      rw [HA.out, ← HT.out] at HRS
      have HO := Lib.hid (only_setCell wr q (x.toNat - 97) (.int .i64 ((cnt (word.data.toList.take j) (x.toNat - 97) : Int) + 1)))
      generalize cnt (word.data.toList.take j) (x.toNat - 97) = m at *
      go_wp2
      go_roundw
      case rel => exact ⟨j + 1, by omega, by go_num, HRS.out, HS3.out.other HO.out hqb, hb4.trans (HO.out.below (Nat.le_refl _))⟩
      case measure => simp [intOf]; omega
    · have HF : Hid (Row wr q 76 (arr (cnt word.data.toList))) := by
        have := HR3.out
        rw [List.take_of_length_le (by rw [← Lib.size_eq]; omega)] at this
        exact this
      go_wp2_with (first | (refine Ops.wpList_load_arr rfl 76 _ rfl 8 3 Try.underlying76 q rfl _ _ HF.out (by rw [arr_length]; exact infoCounts) ?_) | (refine Ops.wpList_store_arr rfl 76 _ _ rfl q rfl _ _ _ rfl HF.out rfl (by rw [arr_length]; exact infoCounts) (arr_one _) ?_; intro w5 hR5 hO5))
      refine bodyPost_ret (results_cell_row rfl _ _ q 76 (arr (cnt word.data.toList)).toArray (0, 0) _ rfl hR5 Try.underlying76 rfl (by simpa [arr_length] using infoCounts)) rfl ⟨rfl, ?_⟩
      rw [← HQ.out]
      exact hb4.trans (hO5.below (Nat.le_refl _))

theorem results_arr (tmps : Array Value) (w : World) (f : Nat → Nat) {b : Bool} {q : Nat} (h : Row w q 76 (arr f)) (h4 : tmps.getD 4 undef = .pointer (some ⟨q, 0, none⟩) := by rfl) (h5 : tmps.getD 5 undef = .bool b := by rfl) :
    (results Try.f39 tmps).run Try.prog w = .ok (.tuple #[.agg (arr f).toArray, .bool b]) w := by
  have hl := run_loadVar_row (P := Try.prog) w q 76 76 (arr f).toArray (0, 0) _ h Try.underlying76 rfl (by simpa [arr_length] using infoCounts)
  have h4' : tmps[4]?.getD undef = .pointer (some ⟨q, 0, none⟩) := by simpa using h4
  have h5' : tmps[5]?.getD undef = .bool b := by simpa using h5
  simp [results, Try.results39, h4', h5', asAddr, hl]

set_option maxHeartbeats 4000000 in
theorem round_any (a : Option Addr) (n c : Nat) (ss : List ByteArray) (f : Nat → Nat) (w : World) (hS : Sys w a n ss) (h0 : images ss = 0) (hf : ∀ i, f i ≤ 1000000000000000000) :
    Calls Try.prog 39 #[.slice a n c, .agg (arr f).toArray] w fun e w' => (∃ g ok, e = .returned (.tuple #[.agg (arr g).toArray, .bool ok]) ∧ (ok = true → sumL ss f n ≤ most ∧ g = sumC ss f n) ∧ (ok = false → most < sumL ss f n)) ∧ Below w.heap.size w w' := by
  have H0 := Lib.hid h0
  have hn8 := images_le h0
  have hnl := hS.len
  have HN := Lib.hid hnl
  rw [hnl] at hn8
  obtain ⟨hn1, hn2⟩ := hn8
  have HF := Lib.hid hf
  clear h0 hf hnl
  go_enter Try.func39, Try.ntmps39
  go_wp2
  have hRp0 : Row (w.alloc (.cells (arr f).toArray 76)) w.heap.size 76 (arr f) := row_alloc w _ _
  have hRq0 := row_alloc (w.alloc (.cells (arr f).toArray 76)) 76 (arr (sumC ss f 0))
  have hB0 : Below w.heap.size w ((w.alloc (.cells (arr f).toArray 76)).alloc (.cells (arr (sumC ss f 0)).toArray 76)) := ((Below.refl _ _).alloc (Nat.le_refl _) _).alloc (by simp) _
  have hRp1 := hRp0.keep (B := (w.alloc (.cells (arr f).toArray 76)).heap.size) ((Below.refl _ _).alloc (Nat.le_refl _) (.cells (arr (sumC ss f 0)).toArray 76)) (by simp)
  have HRp := Lib.hid hRp1
  have HRq := Lib.hid hRq0
  have HB := Lib.hid hB0
  clear hRp0 hRq0 hRp1 hB0
  go_loopw [6, 13] (fun x v w3 => ∃ i : Nat, i ≤ n ∧ v = .int .i64 i ∧ x = .int .i64 (sumL ss f i : Nat) ∧ sumL ss f i ≤ 1000000000000000000 ∧ Row w3 w.heap.size 76 (arr f) ∧ Row w3 (w.heap.size + 1) 76 (arr (sumC ss f i)) ∧ Below w.heap.size w w3) (fun _ v _ => n - (intOf v).toNat)
  case atStart =>
    refine ⟨0, Nat.zero_le _, rfl, rfl, by simp [sumL], HRp.out, ?_, HB.out⟩
    have := HRq.out
    rw [World.size_alloc] at this
    exact this
  case round =>
    obtain ⟨i, hi, rfl, rfl, hL, hRp, hRq, hbel⟩ := hrel
    have HRp := Lib.hid hRp
    have HRq := Lib.hid hRq
    obtain ⟨p, hp⟩ : ∃ p, p = w.heap.size := ⟨_, rfl⟩
    have hp1 := hRq.lt
    simp only [← hp] at hbel hp1 HRp HRq ⊢
    have HP := Lib.hid hp
    clear hRp hRq hp
    by_cases hlt : i < n
    · have hiss : i < ss.length := by rw [HN.out]; exact hlt
      have hmem := images_mem H0.out _ (getD_mem_ss hiss)
      have HM := Lib.hid hmem.2
      have hsz := hmem.1
      obtain ⟨b', off, rfl, hbl, hc'⟩ := (hS.keep (by rw [← HP.out]; exact hbel)).cells i hlt
      dsimp only at hc'
      have HIM : Hid (img ss i = (ss.getD i ByteArray.empty).data.toList) := rfl
      clear hmem hiss
      generalize ss.getD i ByteArray.empty = s at *
      go_wp2_with (refine Ops.wpList_bytes _ rfl 9 69 5 _ rfl Try.underlying9 Try.underlying69 Try.underlying5 _ rfl ?_; intro cap b C w2 hb hsl hb2 hcell)
      have HC := Lib.hid hcell
      have HSL := Lib.hid hsl
      have hb3 : Below p w w2 := hbel.trans (hb2.mono (by omega))
      have HRp2 := Lib.hid (HRp.out.keep hb2 (by omega))
      have HRq2 := Lib.hid (HRq.out.keep hb2 (by omega))
      have hqb1 : b ≠ p := by omega
      have hqb2 : b ≠ p + 1 := by omega
      clear hcell hsl hb2
      obtain ⟨wo, rfl⟩ : ∃ wo : World, wo = wr := ⟨_, rfl⟩
      go_loopw [6, 21] (fun x v w3 => ∃ t : Nat, t ≤ s.size ∧ v = .int .i64 t ∧ x = .int .i64 (midL ss f i t : Nat) ∧ midL ss f i t ≤ 1000000000000000000 ∧ Row w3 p 76 (arr f) ∧ Row w3 (p + 1) 76 (arr (midC ss f i t)) ∧ Sealed w3 b C ∧ Below p w w3) (fun _ v _ => s.size - (intOf v).toNat)
      case atStart => exact ⟨0, Nat.zero_le _, rfl, by rw [midL_zero], by rw [midL_zero]; exact hL, HRp2.out, by rw [midC_zero]; exact HRq2.out, HSL.out, hb3⟩
      case round =>
        obtain ⟨t, ht, rfl, rfl, hL3, hRp3, hRq3, hsl3, hbel3⟩ := hrel
        have HRp3 := Lib.hid hRp3
        have HRq3 := Lib.hid hRq3
        have HS3 := Lib.hid hsl3
        clear hRp3 hRq3 hsl3
        by_cases htl : t < s.size
        · have htl' : t < (img ss i).length := by rw [HIM.out, ← Lib.size_eq]; exact htl
          have hc : wr.cell? ⟨b, t, none⟩ = some (.int .u8 (((img ss i).getD t 0).toNat : Int)) := by rw [HIM.out]; exact (HS3.out.cell t).trans (HC.out t htl)
          have hlt' := isLetter_lt (letters_mem HM.out (by rw [← HIM.out]; exact getD_mem htl'))
          have hmn := Lib.hid (midC_next ss f htl')
          have hmc := midC_le ss f i t (((img ss i).getD t 0).toNat - 97)
          have HLN := Lib.hid (midL_next ss f i t)
          have HLE := Lib.hid (midL_le ss f (t := t + 1) hlt htl')
          have hfi := HF.out i
          generalize (img ss i).getD t 0 = x at *
          have hx : x.toNat < 256 := x.toNat_lt
          obtain ⟨hx1, hx2⟩ := hlt'
          rw [HN.out] at hx2
          have hx8 : x.toNat - 97 < 8 := by omega
          have HST := Lib.hid (hmn.out hx1 hx8)
          have hcx : wr.cell? ⟨p + 1, x.toNat - 97, none⟩ = some (.int .i64 (midC ss f i t (x.toNat - 97) : Nat)) := (HRq3.out.cell _).trans (arr_get _ hx8)
          have hfx : wr.frozen? ⟨p + 1, x.toNat - 97, none⟩ = false := HRq3.out.frozen _
          have hci : wr.cell? ⟨p, i, none⟩ = some (.int .i64 (f i : Nat)) := (HRp3.out.cell _).trans (arr_get _ (by omega))
          have HRS := Lib.hid (HRq3.out.set (x.toNat - 97) (.int .i64 ((midC ss f i t (x.toNat - 97) : Int) + (f i : Int))))
          rw [HST.out] at HRS
          have HO := Lib.hid (only_setCell wr (p + 1) (x.toNat - 97) (.int .i64 ((midC ss f i t (x.toNat - 97) : Int) + (f i : Int))))
          have htn : ((midL ss f i (t + 1) : Nat) : Int) = (midL ss f i t : Nat) + (f i : Nat) := by rw [HLN.out]; push_cast; rfl
          have HTN := Lib.hid htn
          clear hmn HST htn
          generalize midC ss f i t (x.toNat - 97) = m at *
          go_wp2
          go_region
          have hR4 := Lib.hid (HRS.out.drew)
          have hO4 := Lib.hid (only_drew HO.out)
          clear HRS HO
          generalize ((wr.setCell ⟨p + 1, x.toNat - 97, none⟩ (.int .i64 ((m : Int) + (f i : Int)))).drew) = w4 at *
          have hRp4 := Lib.hid (HRp3.out.other hO4.out (by omega))
          have hS4 := Lib.hid (HS3.out.other hO4.out hqb2)
          have hci4 : w4.cell? ⟨p, i, none⟩ = some (.int .i64 (f i : Nat)) := (hRp4.out.cell _).trans (arr_get _ (by omega))
          have hb4 := hbel3.trans (hO4.out.below (B := p) (by omega))
          clear hcx hfx hci
          by_cases hfull : 1000000000000000000 < midL ss f i (t + 1)
          · have hfull' : (1000000000000000000 : Int) < (midL ss f i t : Nat) + (f i : Nat) := by rw [← HTN.out]; omega
            have HMO := Lib.hid (show most < sumL ss f n from Nat.lt_of_lt_of_le hfull HLE.out)
            go_wp2_with (first | (refine Ops.wpList_load_arr rfl 76 _ rfl 8 3 Try.underlying76 (p + 1) rfl _ _ hR4.out (by rw [arr_length]; exact infoCounts) ?_) | (refine Ops.wpList_store_arr rfl 76 _ _ rfl (p + 1) rfl _ _ _ rfl hR4.out rfl (by rw [arr_length]; exact infoCounts) (arr_one _) ?_; intro w5 hR5 hO5))
            refine bodyPost_ret (v := .tuple #[.agg (arr (midC ss f i (t + 1))).toArray, .bool false]) (results_arr _ _ _ hR5) rfl ⟨⟨_, _, rfl, fun h => Bool.noConfusion h, fun _ => HMO.out⟩, ?_⟩
            rw [← HP.out]
            exact hb4.trans (hO5.below (B := p) (by omega))
          · have hfull' : ¬ ((1000000000000000000 : Int) < (midL ss f i t : Nat) + (f i : Nat)) := by rw [← HTN.out]; omega
            go_wp2
            go_roundw
            case rel => exact ⟨t + 1, by omega, by go_num, by rw [HTN.out], by omega, hRp4.out, hR4.out, hS4.out, hb4⟩
            case measure => simp [intOf]; omega
        · have hte : (img ss i).length = t := by rw [HIM.out, ← Lib.size_eq]; omega
          have HME := Lib.hid (midL_end ss f hte)
          have HCE := Lib.hid (midC_end ss f (Nat.le_of_eq hte))
          clear hte
          go_wp2
          go_roundw
          case rel => exact ⟨i + 1, by omega, by go_num, by rw [HME.out], by rw [← HME.out]; exact hL3, HRp3.out, by rw [← HCE.out]; exact HRq3.out, hbel3⟩
          case measure => simp [intOf]; omega
    · have : i = n := by omega
      subst this
      go_wp2_with (first | (refine Ops.wpList_load_arr rfl 76 _ rfl 8 3 Try.underlying76 (p + 1) rfl _ _ HRq.out (by rw [arr_length]; exact infoCounts) ?_) | (refine Ops.wpList_store_arr rfl 76 _ _ rfl (p + 1) rfl _ _ _ rfl HRq.out rfl (by rw [arr_length]; exact infoCounts) (arr_one _) ?_; intro w5 hR5 hO5))
      refine bodyPost_ret (v := .tuple #[.agg (arr (sumC ss f i)).toArray, .bool true]) (results_arr _ _ _ hR5) rfl ⟨⟨_, _, rfl, fun _ => ⟨hL, rfl⟩, fun h => Bool.noConfusion h⟩, ?_⟩
      rw [← HP.out]
      exact hbel.trans (hO5.below (B := p) (by omega))

theorem count_bad (a : Option Addr) (n c : Nat) (ss : List ByteArray) (word : ByteArray) (k : Int) (w : World) (hS : Sys w a n ss) (hw : word.size ≤ maxLen) (h : fault ss word k ≠ 0) :
    Calls Try.prog 18 #[.slice a n c, .string word, .int .i64 k] w fun e w' => e = .returned (.tuple #[.slice none 0 0, .iface 57 (.int .i64 (fault ss word k))]) ∧ Below w.heap.size w w' := by
  go_enter Try.func18, Try.ntmps18
  go_wp2_with (go_at_call 35; refine (check_bad a n c ss word k _ hS hw h).mono ?_; rintro e1 w1 ⟨rfl, hb1⟩)
  go_ret2
  exact ⟨rfl, hb1⟩

/-- What Count answers. -/
def CountIs (o : Option (Nat → Nat)) (n B : Nat) (w' : World) (v : Value) : Prop :=
  match o with
  | some g => ∃ q, B ≤ q ∧ v = .tuple #[.slice (some ⟨q, 0, none⟩) n n, .nilIface] ∧ Row w' q 76 (arr g)
  | none => v = .tuple #[.slice none 0 0, .iface 57 (.int .i64 4)]
theorem countIs_some {o : Option (Nat → Nat)} {g : Nat → Nat} {n B q : Nat} {w' : World} (h : o = some g) (hq : B ≤ q) (hR : Row w' q 76 (arr g)) : CountIs o n B w' (.tuple #[.slice (some ⟨q, 0, none⟩) n n, .nilIface]) := by
  subst h; exact ⟨q, hq, rfl, hR⟩
theorem countIs_none {o : Option (Nat → Nat)} {n B : Nat} {w' : World} (h : o = none) : CountIs o n B w' (.tuple #[.slice none 0 0, .iface 57 (.int .i64 4)]) := by
  subst h; exact rfl

set_option maxHeartbeats 4000000 in
set_option maxRecDepth 100000 in
theorem count_ok (a : Option Addr) (n c : Nat) (ss : List ByteArray) (word : ByteArray) (k : Nat) (w : World) (hS : Sys w a n ss) (hw : word.size ≤ maxLen) (h : fault ss word k = 0) :
    Calls Try.prog 18 #[.slice a n c, .string word, .int .i64 k] w fun e w' => (∃ v, e = .returned v ∧ CountIs (countTo ss k (cnt word.data.toList)) n w.heap.size w' v) ∧ Below w.heap.size w w' := by
  obtain ⟨h0, h1, h2, _, h4⟩ := fault_zero h
  have H := Lib.hid h
  have H0 := Lib.hid h0
  have hn8 := images_le h0
  have hnl := hS.len
  have HN := Lib.hid hnl
  have H2 : Hid (letters 8 word.data.toList = true) := by
    unfold letters at *
    rw [List.all_eq_true] at *
    intro x hx
    have := h2 x hx
    unfold isLetter at *
    simp at *
    omega
  rw [hnl] at hn8
  obtain ⟨hn1, hn2⟩ := hn8
  clear h h0 h2 hnl
  have hk : k ≤ 60 := by omega
  go_enter Try.func18, Try.ntmps18
  go_wp2_with fail
  refine (check_ok a n c ss word k _ hS hw H.out).mono ?_
  rintro e1 w1 ⟨rfl, hb1⟩
  go_wp2_with fail
  refine (of_any word _ h1 H2.out).mono ?_
  rintro e2 w2 ⟨rfl, hb2⟩
  have hR0 := row_alloc w2 76 (arr fun _ => 0)
  have hb3 := (hb1.trans (hb2.mono hb1.size)).alloc (by have := hb1.size; have := hb2.size; omega) (.cells (arr fun _ => 0).toArray 76)
  have hq := hb1.size
  have hq2 := hb2.size
  have HR0 := Lib.hid hR0
  have HB3 := Lib.hid hb3
  clear hR0 hb3
  go_wp2_with (refine Ops.wpList_store_arr rfl 76 _ _ rfl w2.heap.size rfl 76 (arr fun _ => 0) (arr (cnt word.data.toList)) rfl HR0.out rfl (by rw [arr_length]; exact infoCounts) (arr_one _) ?_; intro w3 hR3 hO3)
  have hb4 := HB3.out.trans (hO3.below (B := w.heap.size) (by omega))
  have HR3 := Lib.hid hR3
  have hqw : w.heap.size ≤ w2.heap.size := by omega
  clear HR0 HB3 hR3 hO3 hq hq2
  generalize w2.heap.size = q at *
  go_loopw [25] (fun v wr => ∃ (i : Nat) (f : Nat → Nat), i ≤ k ∧ v = .int .i64 i ∧ Row wr q 76 (arr f) ∧ (∀ j, f j ≤ 1000000000000000000) ∧ countTo ss k (cnt word.data.toList) = countTo ss (k - i) f ∧ Below w.heap.size w wr) (fun v _ => k - (intOf v).toNat)
  case atStart => exact ⟨0, _, Nat.zero_le _, rfl, HR3.out, fun j => by have := cnt_le word.data.toList j; rw [← Lib.size_eq] at this; omega, rfl, hb4⟩
  case round =>
    obtain ⟨i, f, hi, rfl, hR, hf, hc, hbel⟩ := hrel
    have HR := Lib.hid hR
    have HF := Lib.hid hf
    have HCT := Lib.hid hc
    have hqr := hR.lt
    clear hR hf hc
    by_cases hlt : i < k
    · have HRD := Lib.hid (round_any a n c ss f wr (hS.keep hbel) H0.out HF.out)
      go_wp2_with (refine Ops.wpList_load_arr rfl 76 _ rfl 8 3 Try.underlying76 q rfl _ _ HR.out (by rw [arr_length]; exact infoCounts) ?_)
      refine HRD.out.mono ?_
      rintro e5 w5 ⟨⟨g, ok, rfl, hyes, hno⟩, hb5⟩
      have HR5 := Lib.hid (HR.out.keep hb5 hqr)
      cases ok
      · have HFU := Lib.hid (count_full (ss := ss) (f := f) hlt (by rw [HN.out]; exact hno rfl))
        clear hyes hno
        have HE := Lib.hid (HCT.out.trans HFU.out)
        go_wp2_with (refine Ops.wpList_store_arr rfl 76 _ _ rfl q rfl 76 (arr f) (arr g) rfl HR5.out rfl (by rw [arr_length]; exact infoCounts) (arr_one _) ?_; intro w6 hR6 hO6)
        go_ret2
        exact ⟨⟨_, rfl, countIs_none HE.out⟩, (hbel.trans (hb5.mono hbel.size)).trans (hO6.below hqw)⟩
      · obtain ⟨hle, rfl⟩ := hyes rfl
        have HNX := Lib.hid (count_next (ss := ss) (f := f) hlt (by rw [HN.out]; exact hle))
        have HLE := Lib.hid hle
        clear hno hyes hle
        go_wp2_with (refine Ops.wpList_store_arr rfl 76 _ _ rfl q rfl 76 (arr f) (arr (sumC ss f n)) rfl HR5.out rfl (by rw [arr_length]; exact infoCounts) (arr_one _) ?_; intro w6 hR6 hO6)
        go_roundw
        case rel => exact ⟨i + 1, sumC ss f n, by omega, by go_num, hR6, fun j => Nat.le_trans (sumC_le ss f n j) HLE.out, by rw [HCT.out, HNX.out, HN.out], (hbel.trans (hb5.mono hbel.size)).trans (hO6.below hqw)⟩
        case measure => simp [intOf]; omega
    · have : i = k := by omega
      subst this
      have HE := Lib.hid (HCT.out.trans (by rw [Nat.sub_self]; rfl : countTo ss (i - i) f = some f))
      have hn0 : n ≠ 0 := by omega
      go_wp2_with (refine Ops.wpList_slice_arr3 rfl 76 _ _ _ rfl 8 3 Try.underlying76 q rfl n rfl rfl (by omega) hn0 (by kernel_rfl) ?_)
      go_ret2
      exact ⟨⟨_, rfl, countIs_some HE.out hqw HR.out⟩, hbel⟩
end Gr
end Go.Proofs.Ythggpjpmjhaidaa
