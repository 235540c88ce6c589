/- WALK: edenref7.Letter, which calls itself. -/
import Derived.Test.YthggpjpmjhaidaaDoorGrRC
import Derived.Test.YthggpjpmjhaidaaDoorGrLW
import Derived.Test.YthggpjpmjhaidaaDoorGrRLPl
namespace Go.Proofs.YthggpjpmjhaidaaDoor
open Go.RowKit
namespace Gr
open Tld Mem

set_option maxHeartbeats 4000000 in
set_option maxRecDepth 100000 in
theorem rletter_any (a : Option Addr) (n c : Nat) (ss : List ByteArray) (x : UInt8) (h0 : images ss = 0) : ∀ (k : Nat) (s : ByteArray) (at_ : Nat) (w : World), Sys w a n ss → s.size ≤ 40000 → letters ss.length s.data.toList = true → k ≤ 60 → at_ ≤ 1000000000000000000 → Ok ss k (cnt s.data.toList) → At ss k s.data.toList at_ x →
    Calls Tryd.prog 20 #[.slice a n c, .string s, .int .i64 k, .int .i64 at_] w fun e w' => e = .returned (.string ⟨#[x]⟩) ∧ Below w.heap.size w w' := by
  intro k
  induction k with
  | zero =>
    intro s at_ w hS hs hl hk hat hok hAt
    obtain ⟨h1, h2⟩ := hAt.zero
    have hlt : at_ < s.size := by rw [Lib.size_eq]; exact h1
    have hex : s.extract at_ (at_ + 1) = ⟨#[x]⟩ := by
      rw [Lib.extract_eq]
      rw [List.drop_eq_getElem_cons h1]
      rw [List.getD_eq_getElem?_getD, List.getElem?_eq_getElem h1] at h2
      simp at h2
      simp [h2]
    have HEX := Lib.hid hex
    clear hex h1 h2 hAt hok
    go_enter Tryd.func20, Tryd.ntmps20
    go_wp2
    go_ret
    rw [HEX.out]
    exact ⟨rfl, Below.refl _ _⟩
  | succ k ih =>
    intro s at_ w hS hs hl hk hat hok hAt
    have IH := Lib.hid ih
    have HOK := Lib.hid hok
    have HAT := Lib.hid hAt
    have HL := Lib.hid hl
    have H0 := Lib.hid h0
    have hn8 := images_le h0
    rw [hS.len] at hn8
    clear ih hok hAt hl h0
    obtain ⟨K, hK⟩ : ∃ K, K = k + 1 := ⟨_, rfl⟩
    rw [← hK] at HOK HAT ⊢
    have hk1 : (K : Int) - 1 = (k : Int) := by omega
    have hK0 : 0 < K := by omega
    have hK60 : K ≤ 60 := by omega
    have hk60 : k ≤ 60 := by omega
    have HK := Lib.hid hK
    clear hK hk
    have hK0' : ((K : Int) == 0) = false := by rw [beq_eq_false_iff_ne]; omega
    go_enter Tryd.func20, Tryd.ntmps20
    go_wp2
    go_loopw [3, 9] (fun v u wr => ∃ (i at' : Nat), i ≤ s.size ∧ u = .int .i64 i ∧ v = .int .i64 at' ∧ at' ≤ 1000000000000000000 ∧ At ss K (s.data.toList.drop i) at' x ∧ Below w.heap.size w wr) (fun _ u _ => s.size - (intOf u).toNat)
    case atStart => exact ⟨0, at_, Nat.zero_le _, rfl, rfl, hat, HAT.out, Below.refl _ _⟩
    case round =>
      obtain ⟨i, at', hi, rfl, rfl, hat', hAt, hbel⟩ := hrel
      have HA := Lib.hid hAt
      clear hAt
      by_cases hlt : i < s.size
      · have hlt' : i < s.data.toList.length := by rw [← Lib.size_eq]; exact hlt
        have hmem := getD_mem hlt'
        have hg : s[i]'hlt = s.data.toList.getD i 0 := get_getD s i hlt
        have hlet := letters_mem HL.out hmem
        have HEX := Lib.hid (extract_one s i hlt)
        have HOK1 := Lib.hid (HOK.out.letter hmem)
        have HA2 := Lib.hid (HA.out.drop hlt')
        clear hmem hlt'
        generalize s.data.toList.getD i 0 = ch at *
        have hx : ch.toNat < 256 := ch.toNat_lt
        obtain ⟨hx1, hx2⟩ := isLetter_lt hlet
        rw [hS.len] at hx2
        have HLET := Lib.hid hlet
        clear hlet
        obtain ⟨g, hg1⟩ := HOK1.out
        have hone := one_counts H0.out HLET.out hg1
        have HRC : Hid (∀ w2 : World, Sys w2 a n ss → Calls Tryd.prog 19 #[.slice a n c, .string (s.extract i (i + 1)), .int .i64 K] w2 fun e w' => (∃ v, e = .returned v ∧ CountR (some g) n w2.heap.size w' v) ∧ Below w2.heap.size w2 w') := fun w2 h2 => by
          have h3 := rcount_any a n c ss (s.extract i (i + 1)) K w2 h2 (fault_one H0.out HEX.out HLET.out hK60)
          have h4 : countTo ss K (cnt (s.extract i (i + 1)).data.toList) = some g := by rw [HEX.out]; exact hg1
          rw [h4] at h3
          exact h3
        rw [hS.len] at hone
        unfold most at hone
        obtain ⟨hone1, hone2⟩ := hone
        have HM := Lib.hid (fun t (ht : t ≤ n) => sumTo_mono g ht)
        have HONE := Lib.hid hone1
        have HG := Lib.hid hg1
        have hi1 : ((i : Int) + 1).toNat = i + 1 := by omega
        have hi2 : (i : Int) + 1 ≤ s.size := by omega
        clear hone1 hg1
        go_wp2_with fail
        refine (HRC.out _ (hS.keep hbel)).mono ?_
        rintro e1 w1 ⟨⟨v, rfl, hv⟩, hb1⟩
        obtain ⟨q, hq, rfl, hR⟩ := hv
        have HR := Lib.hid hR
        have hb1 := hbel.trans (hb1.mono hbel.size)
        clear hR
        go_wp2_with fail
        go_loop [13, 14] (fun v u => ∃ t : Nat, t ≤ n ∧ u = .int .i64 t ∧ v = .int .i64 (sumTo g t : Nat)) (fun _ u => n - (intOf u).toNat)
        case atStart => exact ⟨0, Nat.zero_le _, rfl, rfl⟩
        case round =>
          obtain ⟨t, ht, rfl, rfl⟩ := hrel
          by_cases htn : t < n
          · have hci : w1.cell? ⟨q, t, none⟩ = some (.int .i64 (g t : Nat)) := (HR.out.cell t).trans (arrN_get g htn)
            have HS1 : Hid (sumTo g (t + 1) = sumTo g t + g t) := Lib.hid (show sumTo g (t + 1) = sumTo g t + g t from rfl)
            have hle := HM.out (t + 1) htn
            rw [HS1.out, HONE.out] at hle
            have hle2 : (sumTo g t : Int) + (g t : Int) ≤ 1000000000000000000 := by omega
            generalize hgt : g t = gt at *
            go_wp2
            go_round
            case rel => exact ⟨t + 1, by omega, by go_num, by rw [HS1.out, Int.natCast_add]⟩
            case measure => simp [intOf]; omega
          · obtain rfl : t = n := by omega
            rw [HONE.out]
            have HDN : Hid (at' < lenL ss K ch → At ss k (image ss ch) at' x) := fun h => by
              have h3 := HA2.out
              rw [HK.out] at h3 h
              exact h3.down h
            have HSK : Hid (¬ at' < lenL ss K ch → At ss K (s.data.toList.drop (i + 1)) (at' - lenL ss K ch) x) := fun h => HA2.out.skip (by omega)
            have HOD : Hid (Ok ss k (cnt (image ss ch))) := by
              have h3 := HOK1.out
              rw [HK.out] at h3
              exact h3.down HLET.out
            generalize lenL ss K ch = L at *
            by_cases hin : at' < L
            · have hxi : ((ch.toNat : Int) - 97).toNat = ch.toNat - 97 := by omega
              have hxp : (0 : Int) ≤ (ch.toNat : Int) - 97 := by omega
              have hxq : (ch.toNat : Int) - 97 < t := by omega
              have hmem := images_mem H0.out _ (getD_mem_ss (k := ch.toNat - 97) (by rw [hS.len]; exact hx2))
              have hsz2 : (ss.getD (ch.toNat - 97) ByteArray.empty).size ≤ 40000 := by have := hmem.1; omega
              have HL2 := Lib.hid hmem.2
              have HD2 : Hid (At ss k (ss.getD (ch.toNat - 97) ByteArray.empty).data.toList at' x) := HDN.out hin
              have HO2 : Hid (Ok ss k (cnt (ss.getD (ch.toNat - 97) ByteArray.empty).data.toList)) := HOD.out
              have hc0 := (hS.keep hb1).cells (ch.toNat - 97) hx2
              dsimp only at hc0
              have HC := Lib.hid hc0
              clear hc0
              clear hmem
              generalize ss.getD (ch.toNat - 97) ByteArray.empty = s2 at *
              have HS2 := Lib.hid (hS.keep hb1)
              obtain ⟨b5, off5, rfl, hbl5, hc5⟩ := HC.out
              go_wp2_with fail
              refine (IH.out s2 at' _ HS2.out hsz2 HL2.out hk60 hat' HO2.out HD2.out).mono ?_
              rintro e2 w2 ⟨rfl, hb2⟩
              go_wp2_with fail
              go_ret
              exact ⟨rfl, hb1.trans (hb2.mono hb1.size)⟩
            · have hsub : (at' : Int) - (L : Int) = ((at' - L : Nat) : Int) := by omega
              have HSUB := Lib.hid hsub
              clear hsub
              go_wp2
              go_roundw
              case rel => exact ⟨i + 1, at' - L, by omega, by go_num, by rw [HSUB.out], by omega, HSK.out hin, hb1⟩
              case measure => simp [intOf]; omega
      · exfalso
        have h3 := HA.out
        rw [List.drop_of_length_le (by rw [← Lib.size_eq]; omega)] at h3
        exact h3.nil
end Gr
end Go.Proofs.YthggpjpmjhaidaaDoor
