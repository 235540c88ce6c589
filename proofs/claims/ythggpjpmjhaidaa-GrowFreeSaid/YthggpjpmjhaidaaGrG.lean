/- WALK: grow.Grow. -/
import Derived.Test.YthggpjpmjhaidaaGrW
import Derived.Test.YthggpjpmjhaidaaBld
namespace Go.Proofs.Ythggpjpmjhaidaa
open Go.RowKit
namespace Gr
open Tld Mem

theorem grow_bad (a : Option Addr) (n c : Nat) (ss : List ByteArray) (word : ByteArray) (k : Int) (w : World) (hS : Sys w a n ss) (hw : word.size ≤ maxLen) (h : fault ss word k ≠ 0) :
    Calls Try.prog 17 #[.slice a n c, .string word, .int .i64 k] w fun e w' => e = .returned (.tuple #[.string ⟨#[]⟩, .iface 57 (.int .i64 (fault ss word k))]) ∧ Below w.heap.size w w' := by
  go_enter Try.func17, Try.ntmps17
  go_wp2_with (go_at_call 35; refine (check_bad a n c ss word k _ hS hw h).mono ?_; rintro e1 w1 ⟨rfl, hb1⟩)
  go_ret2
  exact ⟨rfl, hb1⟩

set_option maxHeartbeats 4000000 in
theorem grow_ok (a : Option Addr) (n c : Nat) (ss : List ByteArray) (word : ByteArray) (k : Nat) (w : World) (hS : Sys w a n ss) (hw : word.size ≤ maxLen) (h : fault ss word k = 0) :
    Calls Try.prog 17 #[.slice a n c, .string word, .int .i64 k] w fun e w' => e = .returned (textV (growTo ss k word.data.toList)) ∧ Below w.heap.size w w' := by
  obtain ⟨h0, h1, h2, _, h4⟩ := fault_zero h
  have H := Lib.hid h
  have H0 := Lib.hid h0
  have H2 := Lib.hid h2
  clear h h0 h2
  have hk : k ≤ 60 := by omega
  go_enter Try.func17, Try.ntmps17
  go_wp2_with (go_at_call 35; refine (check_ok a n c ss word k _ hS hw H.out).mono ?_; rintro e1 w1 ⟨rfl, hb1⟩)
  go_loopw [1, 24] (fun v u wr => ∃ (i : Nat) (s : ByteArray), i ≤ k ∧ u = .int .i64 i ∧ v = .string s ∧ s.size ≤ 40000 ∧ letters ss.length s.data.toList = true ∧ growTo ss k word.data.toList = growTo ss (k - i) s.data.toList ∧ Below w.heap.size w wr) (fun _ u _ => k - (intOf u).toNat)
  case atStart => exact ⟨0, word, Nat.zero_le _, rfl, rfl, h1, H2.out, rfl, hb1⟩
  case round =>
    obtain ⟨i, s, hi, rfl, rfl, hl, hlet, hg, hbel⟩ := hrel
    have HL := Lib.hid hlet
    have HG := Lib.hid hg
    clear hlet hg
    by_cases hlt : i < k
    · have HI := Lib.hid (Bld.fresh wr)
      go_wp2_with (refine Ops.wpList_bytes _ rfl 9 69 5 _ rfl Try.underlying9 Try.underlying69 Try.underlying5 _ rfl ?_; intro cap b C w2 hb hsl hb2 hcell)
      have HC := Lib.hid hcell
      have HI2 := Lib.hid (HI.out.keep hb2)
      have hb3 : Below wr.heap.size wr w2 := ((Below.refl _ _).alloc (Nat.le_refl _) _).trans (hb2.mono (by simp))
      have hqb : wr.heap.size ≠ b := by simp at hb; omega
      have hwq : w.heap.size ≤ wr.heap.size := hbel.size
      clear hcell hb2 hb
      generalize wr.heap.size = q at *
      obtain ⟨wo, rfl⟩ : ∃ wo : World, wo = wr := ⟨_, rfl⟩
      go_loopw [29] (fun v w3 => ∃ j : Nat, j ≤ s.size ∧ v = .int .i64 j ∧ Bld.Is q q (roundW ss (s.data.toList.take j)) w3 ∧ Sealed w3 b C ∧ Below q wo w3) (fun v _ => s.size - (intOf v).toNat)
      case atStart => exact ⟨0, Nat.zero_le _, rfl, HI2.out, hsl, hb3⟩
      case round =>
        obtain ⟨j, hj, rfl, hIs, hsl3, hb4⟩ := hrel
        have HS3 := Lib.hid hsl3
        have HIs := Lib.hid hIs
        have hq3 : q < wr.heap.size := hIs.lt
        clear hsl3 hIs
        by_cases hjl : j < s.size
        · have hjl' : j < s.data.toList.length := by rw [← Lib.size_eq]; exact hjl
          have hc : wr.cell? ⟨b, j, none⟩ = some (.int .u8 ((s.data.toList.getD j 0).toNat : Int)) := (HS3.out.cell j).trans (HC.out j hjl)
          have hlt' := isLetter_lt (letters_mem HL.out (getD_mem hjl'))
          have HRT := Lib.hid (round_take (ss := ss) hjl')
          have hlen := round_length H0.out (letters_take HL.out j)
          rw [List.length_take] at hlen
          have hlen' : (roundW ss (s.data.toList.take j)).length ≤ 480000 := by rw [← Lib.size_eq] at hlen; omega
          clear hlen hjl'
          generalize s.data.toList.getD j 0 = x at *
          have hx : x.toNat < 256 := x.toNat_lt
          obtain ⟨hx1, hx2⟩ := hlt'
          have hxn : x.toNat - 97 < n := by have := hS.len; omega
          obtain ⟨b', off, rfl, hbl, hc'⟩ := (hS.below (hbel.trans (hb4.mono hwq)) (Nat.le_refl _)).cells (x.toNat - 97) hxn
          dsimp only at hc'
          have hsz := (images_mem H0.out _ (getD_mem_ss hx2)).1
          have HRT2 : Hid (roundW ss (s.data.toList.take (j + 1)) = roundW ss (s.data.toList.take j) ++ (ss.getD (x.toNat - 97) ByteArray.empty).data.toList) := HRT.out
          clear HRT
          generalize ss.getD (x.toNat - 97) ByteArray.empty = t at *
          have HWS := Lib.hid (Bld.writeString q q _ t wr HIs.out (by omega) (by omega))
          go_wp2_with (go_at_call 36; refine HWS.out.mono ?_; rintro e5 w5 ⟨rfl, hI5, hb5, hk5⟩)
          go_roundw
          case rel => exact ⟨j + 1, by omega, by go_num, by rw [HRT2.out]; exact hI5, hk5 _ _ (Ne.symm hqb) HS3.out, hb4.trans hb5⟩
          case measure => simp [intOf]; omega
        · have HRA := Lib.hid (round_all (ss := ss) (s := s) (j := j) (by omega))
          have HI4 : Hid (Bld.Is q q (roundW ss s.data.toList) wr) := by rw [← HRA.out]; exact HIs.out
          have HST := Lib.hid (Bld.str q q _ wr HI4.out (by omega))
          have hlen := round_length H0.out HL.out
          rw [← Lib.size_eq] at hlen
          have hrl := round_letters H0.out HL.out
          have HRL := Lib.hid hrl
          clear hrl
          have HGN := Lib.hid (grow_next (ss := ss) (l := s.data.toList) hlt)
          have HGF := Lib.hid (grow_full (ss := ss) (l := s.data.toList) hlt)
          generalize roundW ss s.data.toList = r at *
          obtain ⟨t, ht⟩ : ∃ t : ByteArray, t = ⟨r.toArray⟩ := ⟨_, rfl⟩
          have htl : t.data.toList = r := by rw [ht]
          have hts : t.size = r.length := by rw [Lib.size_eq, htl]
          have HST' : Hid (Calls Try.prog 37 #[.pointer (some ⟨q, 0, none⟩)] wr fun e w' => e = .returned (.string t) ∧ Below q wr w') := by rw [ht]; exact HST.out
          have HTL := Lib.hid htl
          have HTS := Lib.hid hts
          have htle : t.size ≤ 480000 := by omega
          clear HST htl hts ht
          by_cases hful : 40000 < t.size
          · have HF := Lib.hid (textV_none (HG.out.trans (HGF.out (by rw [← HTS.out]; exact hful))))
            go_wp2_with (go_at_call 37; refine HST'.out.mono ?_; rintro e5 w5 ⟨rfl, hb5⟩)
            go_ret2
            exact ⟨congrArg Ending.returned HF.out.symm, hbel.trans ((hb4.trans hb5).mono hwq)⟩
          · have HN := Lib.hid (HG.out.trans (HGN.out (by rw [← HTS.out]; exact hful)))
            go_wp2_with (go_at_call 37; refine HST'.out.mono ?_; rintro e5 w5 ⟨rfl, hb5⟩)
            go_roundw
            case rel => exact ⟨i + 1, t, by omega, by go_num, rfl, by omega, by rw [HTL.out]; exact HRL.out, by rw [HTL.out]; exact HN.out, hbel.trans ((hb4.trans hb5).mono hwq)⟩
            case measure => simp [intOf]; omega
    · have : i = k := by omega
      subst this
      have HF := Lib.hid (textV_some (HG.out.trans (by rw [Nat.sub_self]; rfl)))
      go_wp2
      go_ret2
      exact ⟨congrArg Ending.returned HF.out.symm, hbel⟩
end Gr
end Go.Proofs.Ythggpjpmjhaidaa
