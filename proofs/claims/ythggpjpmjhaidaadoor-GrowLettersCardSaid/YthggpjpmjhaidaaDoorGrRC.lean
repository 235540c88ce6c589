/- WALK: edenref7.Count. -/
import Derived.Test.YthggpjpmjhaidaaDoorGrR
namespace Go.Proofs.YthggpjpmjhaidaaDoor
open Go.RowKit
namespace Gr
open Tld Mem

theorem infoInt : (Tryd.prog.info? 3).map (fun i => (i.zero, i.size, i.bytes)) = some (some (.int .i64 0), 1, 8) := by kernel_rfl

/-- What the reference's Count answers. -/
def CountR (o : Option (Nat → Nat)) (n B : Nat) (w' : World) (v : Value) : Prop :=
  match o with
  | some g => ∃ q, B ≤ q ∧ v = .tuple #[.slice (some ⟨q, 0, none⟩) n n, .int .i64 0] ∧ Row w' q 3 (arrN n g)
  | none => v = .tuple #[.slice none 0 0, .int .i64 4]
theorem countR_some {o : Option (Nat → Nat)} {g : Nat → Nat} {n B q : Nat} {w' : World} (h : o = some g) (hq : B ≤ q) (hR : Row w' q 3 (arrN n g)) : CountR o n B w' (.tuple #[.slice (some ⟨q, 0, none⟩) n n, .int .i64 0]) := by
  subst h; exact ⟨q, hq, rfl, hR⟩
theorem countR_none {o : Option (Nat → Nat)} {n B : Nat} {w' : World} (h : o = none) : CountR o n B w' (.tuple #[.slice none 0 0, .int .i64 4]) := by
  subst h; exact rfl

set_option maxHeartbeats 8000000 in
set_option maxRecDepth 100000 in
theorem rcount_any (a : Option Addr) (n c : Nat) (ss : List ByteArray) (word : ByteArray) (k : Nat) (w : World) (hS : Sys w a n ss) (h : fault ss word k = 0) :
    Calls Tryd.prog 19 #[.slice a n c, .string word, .int .i64 k] w fun e w' => (∃ v, e = .returned v ∧ CountR (countTo ss k (cnt word.data.toList)) n w.heap.size w' v) ∧ Below w.heap.size w w' := by
  obtain ⟨h0, h1, h2, _, h4⟩ := fault_zero h
  obtain ⟨i0, hi, hz0, hz1, hz2⟩ := info_parts infoInt
  have H0 := Lib.hid h0
  have hn8 := images_le h0
  have hnl := hS.len
  have HN := Lib.hid hnl
  have H2 : Hid (letters n word.data.toList = true) := by rw [← hnl]; exact h2
  rw [hnl] at hn8
  obtain ⟨hn1, hn2⟩ := hn8
  clear h h0 h2 hnl
  have hk : k ≤ 60 := by omega
  go_enter Tryd.func19, Tryd.ntmps19
  go_wp2_with (refine Ops.wpList_make rfl 24 _ _ rfl 3 i0 (.int .i64 0) Tryd.underlying24 hi hz0 rfl hz1 (by omega) n rfl rfl (by omega) ?_; intro q w1 hqw hb1 hR1)
  rw [arrN_zero] at hR1
  have HR1 := Lib.hid hR1
  clear hR1
  go_loopw [9] (fun v wr => ∃ j : Nat, j ≤ word.size ∧ v = .int .i64 j ∧ Row wr q 3 (arrN n (cnt (word.data.toList.take j))) ∧ Below w.heap.size w wr) (fun v _ => word.size - (intOf v).toNat)
  case atStart => exact ⟨0, Nat.zero_le _, rfl, HR1.out, hb1⟩
  case round =>
    obtain ⟨j, hj, rfl, hR, hbel⟩ := hrel
    have HR := Lib.hid hR
    clear hR
    by_cases hjl : j < word.size
    · have hg : word[j]'hjl = word.data.toList.getD j 0 := get_getD word j hjl
      have hjl' : j < word.data.toList.length := by rw [← Lib.size_eq]; exact hjl
      have hlt' := isLetter_lt (letters_mem H2.out (getD_mem hjl'))
      have HT := Lib.hid (take_snoc hjl')
      clear hjl'
      generalize word.data.toList.getD j 0 = x at *
      have hx : x.toNat < 256 := x.toNat_lt
      obtain ⟨hx1, hx2⟩ := hlt'
      have hxi : ((x.toNat : Int) - 97).toNat = x.toNat - 97 := by omega
      have hxp : (0 : Int) ≤ (x.toNat : Int) - 97 := by omega
      have hxq : (x.toNat : Int) - 97 < n := by omega
      have hc0 := cnt_le (word.data.toList.take j) (x.toNat - 97)
      have hlen := List.length_take_le j word.data.toList
      have HA := Lib.hid (arrN_snoc (n := n) (word.data.toList.take j) x hx1 hx2)
      have hcx : wr.cell? ⟨q, x.toNat - 97, none⟩ = some (.int .i64 (cnt (word.data.toList.take j) (x.toNat - 97) : Nat)) := (HR.out.cell _).trans (arrN_get _ hx2)
      have hfx : wr.frozen? ⟨q, x.toNat - 97, none⟩ = false := HR.out.frozen _
      have HRS := Lib.hid (HR.out.set (x.toNat - 97) (.int .i64 ((cnt (word.data.toList.take j) (x.toNat - 97) : Int) + 1)))
      rw [HA.out, ← HT.out] at HRS
      have HO := Lib.hid (only_setCell wr q (x.toNat - 97) (.int .i64 ((cnt (word.data.toList.take j) (x.toNat - 97) : Int) + 1)))
      generalize cnt (word.data.toList.take j) (x.toNat - 97) = m at *
      go_wp2
      go_roundw
      case rel => exact ⟨j + 1, by omega, by go_num, HRS.out, hbel.trans (HO.out.below hqw)⟩
      case measure => simp [intOf]; omega
    · have HRE : Hid (Row wr q 3 (arrN n (cnt word.data.toList))) := by
        have := HR.out
        rw [List.take_of_length_le (by rw [← Lib.size_eq]; omega)] at this
        exact this
      clear HR HR1
      go_wp2
      obtain ⟨w2, rfl⟩ : ∃ w2 : World, w2 = wr := ⟨_, rfl⟩
      go_loopw [8, 10] (fun x v wr => ∃ (i : Nat) (f : Nat → Nat) (q : Nat), i ≤ k ∧ v = .int .i64 i ∧ x = .slice (some ⟨q, 0, none⟩) n n ∧ w.heap.size ≤ q ∧ Row wr q 3 (arrN n f) ∧ (∀ j, f j ≤ 1000000000000000000) ∧ countTo ss k (cnt word.data.toList) = countTo ss (k - i) f ∧ Below w.heap.size w wr) (fun _ v _ => k - (intOf v).toNat)
      case atStart => exact ⟨0, _, q, Nat.zero_le _, rfl, rfl, hqw, HRE.out, fun j => by have := cnt_le word.data.toList j; rw [← Lib.size_eq] at this; omega, rfl, hbel⟩
      case round =>
        clear HRE hbel hqw hjl hj
        obtain ⟨r, f, q, hr, rfl, rfl, hqw, hRf, hf, hct, hbel⟩ := hrel
        have HRF := Lib.hid hRf
        have HF := Lib.hid hf
        have HCT := Lib.hid hct
        have hql := hRf.lt
        clear hRf hf hct
        by_cases hrl : r < k
        · go_wp2_with (refine Ops.wpList_make rfl 24 _ _ rfl 3 i0 (.int .i64 0) Tryd.underlying24 hi hz0 rfl hz1 (by omega) n rfl rfl (by omega) ?_; intro p w3 hp hb3 hR3)
          rw [arrN_zero] at hR3
          have hqp : q ≠ p := by omega
          have hpw : w.heap.size ≤ p := by have := hbel.size; omega
          have HR3 := Lib.hid hR3
          have HRF3 := Lib.hid (HRF.out.keep hb3 hql)
          have hbel3 := hbel.trans (hb3.mono hbel.size)
          clear hp hb3 hR3 HRF
          go_loopw [12, 13] (fun x v w4 => ∃ i : Nat, i ≤ n ∧ v = .int .i64 i ∧ x = .int .i64 (sumL ss f i : Nat) ∧ sumL ss f i ≤ 1000000000000000000 ∧ Row w4 q 3 (arrN n f) ∧ Row w4 p 3 (arrN n (sumC ss f i)) ∧ Below w.heap.size w w4) (fun _ v _ => n - (intOf v).toNat)
          case atStart => exact ⟨0, Nat.zero_le _, rfl, rfl, by simp [sumL], HRF3.out, HR3.out, hbel3⟩
          case round =>
            clear HRF3 HR3 hbel3
            obtain ⟨i, hin, rfl, rfl, hL, hRq, hRp, hbel4⟩ := hrel
            have HRq := Lib.hid hRq
            have HRp := Lib.hid hRp
            clear hRq hRp
            by_cases hlt : i < n
            · have hiss : i < ss.length := by rw [HN.out]; exact hlt
              have hmem := images_mem H0.out _ (getD_mem_ss hiss)
              have HM := Lib.hid hmem.2
              have hsz := hmem.1
              have HIM : Hid (img ss i = (ss.getD i ByteArray.empty).data.toList) := rfl
              have HCE : Hid (∀ wx : World, Below w.heap.size w wx → ∃ b off, a = some ⟨b, off, none⟩ ∧ b < wx.heap.size ∧ wx.cell? ⟨b, off + i, none⟩ = some (.string (ss.getD i ByteArray.empty))) := fun wx hx => (hS.keep hx).cells i hlt
              clear hmem hiss
              generalize ss.getD i ByteArray.empty = s at *
              go_wp2
              go_loopw [12, 14] (fun x v w4 => ∃ t : Nat, t ≤ s.size ∧ v = .int .i64 t ∧ x = .int .i64 (midL ss f i t : Nat) ∧ midL ss f i t ≤ 1000000000000000000 ∧ Row w4 q 3 (arrN n f) ∧ Row w4 p 3 (arrN n (midC ss f i t)) ∧ Below w.heap.size w w4) (fun _ v _ => s.size - (intOf v).toNat)
              case atStart => exact ⟨0, Nat.zero_le _, rfl, by rw [midL_zero], by rw [midL_zero]; exact hL, HRq.out, by rw [midC_zero]; exact HRp.out, hbel4⟩
              case round =>
                clear hbel4 HRq HRp
                obtain ⟨t, ht, rfl, rfl, hL3, hRp3, hRq3, hbel3⟩ := hrel
                obtain ⟨b', off, rfl, hbl, hc'⟩ := HCE.out _ hbel3
                have HRp3 := Lib.hid hRp3
                have HRq3 := Lib.hid hRq3
                clear hRp3 hRq3
                by_cases htl : t < s.size
                · have htl' : t < (img ss i).length := by rw [HIM.out, ← Lib.size_eq]; exact htl
                  have hg : s[t]'htl = (img ss i).getD t 0 := by rw [HIM.out]; exact get_getD s t htl
                  have hlt' := isLetter_lt (letters_mem HM.out (by rw [← HIM.out]; exact getD_mem htl'))
                  have hmn := Lib.hid (midC_nextN (n := n) ss f htl')
                  have hmc := midC_le ss f i t (((img ss i).getD t 0).toNat - 97)
                  have HLN := Lib.hid (midL_next ss f i t)
                  have HLE := Lib.hid (midL_le ss f (t := t + 1) hlt htl')
                  have hfi := HF.out i
                  generalize (img ss i).getD t 0 = x at *
                  have hx : x.toNat < 256 := x.toNat_lt
                  obtain ⟨hx1, hx2⟩ := hlt'
                  rw [HN.out] at hx2
                  have hxi : ((x.toNat : Int) - 97).toNat = x.toNat - 97 := by omega
                  have hxp : (0 : Int) ≤ (x.toNat : Int) - 97 := by omega
                  have hxq : (x.toNat : Int) - 97 < n := by omega
                  have HST := Lib.hid (hmn.out hx1 hx2)
                  have hcx : wr.cell? ⟨p, x.toNat - 97, none⟩ = some (.int .i64 (midC ss f i t (x.toNat - 97) : Nat)) := (HRq3.out.cell _).trans (arrN_get _ hx2)
                  have hfx : wr.frozen? ⟨p, x.toNat - 97, none⟩ = false := HRq3.out.frozen _
                  have hci : wr.cell? ⟨q, i, none⟩ = some (.int .i64 (f i : Nat)) := (HRp3.out.cell _).trans (arrN_get _ hlt)
                  have HRS := Lib.hid (HRq3.out.set (x.toNat - 97) (.int .i64 ((midC ss f i t (x.toNat - 97) : Int) + (f i : Int))))
                  rw [HST.out] at HRS
                  have HO := Lib.hid (only_setCell wr p (x.toNat - 97) (.int .i64 ((midC ss f i t (x.toNat - 97) : Int) + (f i : Int))))
                  have htn : ((midL ss f i (t + 1) : Nat) : Int) = (midL ss f i t : Nat) + (f i : Nat) := by rw [HLN.out]; push_cast; rfl
                  have HTN := Lib.hid htn
                  clear hmn HST htn
                  generalize midC ss f i t (x.toNat - 97) = m at *
                  go_wp2
                  go_region
                  have hR4 := Lib.hid (HRS.out.drew)
                  have hO4 := Lib.hid (only_drew HO.out)
                  clear HRS HO
                  generalize ((wr.setCell ⟨p, x.toNat - 97, none⟩ (.int .i64 ((m : Int) + (f i : Int)))).drew) = w4 at *
                  have hRp4 := Lib.hid (HRp3.out.other hO4.out hqp)
                  have hci4 : w4.cell? ⟨q, i, none⟩ = some (.int .i64 (f i : Nat)) := (hRp4.out.cell _).trans (arrN_get _ hlt)
                  have hb4 := hbel3.trans (hO4.out.below (B := w.heap.size) hpw)
                  clear hcx hfx hci hc'
                  by_cases hfull : 1000000000000000000 < midL ss f i (t + 1)
                  · have hfull' : (1000000000000000000 : Int) < (midL ss f i t : Nat) + (f i : Nat) := by rw [← HTN.out]; omega
                    have HMO := Lib.hid (HCT.out.trans (count_full (ss := ss) (f := f) hrl (by rw [HN.out]; exact Nat.lt_of_lt_of_le hfull HLE.out)))
                    go_wp2
                    go_ret2
                    exact ⟨⟨_, rfl, countR_none HMO.out⟩, hb4⟩
                  · have hfull' : ¬ ((1000000000000000000 : Int) < (midL ss f i t : Nat) + (f i : Nat)) := by rw [← HTN.out]; omega
                    go_wp2
                    go_roundw
                    case rel => exact ⟨t + 1, by omega, by go_num, by rw [HTN.out], by omega, hRp4.out, hR4.out, hb4⟩
                    case measure => simp [intOf]; omega
                · have hte : (img ss i).length = t := by rw [HIM.out, ← Lib.size_eq]; omega
                  have HME := Lib.hid (midL_end ss f hte)
                  have HMC := Lib.hid (midC_end ss f (Nat.le_of_eq hte))
                  clear hte
                  go_wp2
                  go_roundw
                  case rel => exact ⟨i + 1, by omega, by go_num, by rw [HME.out], by rw [← HME.out]; exact hL3, HRp3.out, by rw [← HMC.out]; exact HRq3.out, hbel3⟩
                  case measure => simp [intOf]; omega
            · have : i = n := by omega
              subst this
              have HNX := Lib.hid (count_next (ss := ss) (f := f) hrl (by rw [HN.out]; exact hL))
              go_wp2
              go_roundw
              case rel => exact ⟨r + 1, sumC ss f i, p, by omega, by go_num, rfl, hpw, HRp.out, fun j => Nat.le_trans (sumC_le ss f i j) hL, by rw [HCT.out, HNX.out, HN.out], hbel4⟩
              case measure => simp [intOf]; omega
        · have : r = k := by omega
          subst this
          have HE := Lib.hid (HCT.out.trans (by rw [Nat.sub_self]; rfl : countTo ss (r - r) f = some f))
          go_wp2
          go_ret2
          exact ⟨⟨_, rfl, countR_some HE.out hqw HRF.out⟩, hbel⟩
end Gr
end Go.Proofs.YthggpjpmjhaidaaDoor
