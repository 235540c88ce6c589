/- WALK: edenref7.Grow. -/
import Derived.Test.YthggpjpmjhaidaaDoorGrR
namespace Go.Proofs.YthggpjpmjhaidaaDoor
open Go.RowKit
namespace Gr
open Tld Mem

theorem infoU8 : (Tryd.prog.info? 5).map (fun i => (i.zero, i.size, i.bytes)) = some (some (.int .u8 0), 1, 1) := by kernel_rfl
theorem byteCells_app (l : List UInt8) (t : ByteArray) : Lib.byteCells (l ++ t.data.toList) = Lib.byteCells l ++ Lib.strCells t := by simp [Lib.byteCells, Lib.strCells]

set_option maxHeartbeats 4000000 in
set_option maxRecDepth 100000 in
theorem rgrow_any (a : Option Addr) (n c : Nat) (ss : List ByteArray) (word : ByteArray) (k : Nat) (w : World) (hS : Sys w a n ss) (h : fault ss word k = 0) :
    Calls Tryd.prog 17 #[.slice a n c, .string word, .int .i64 k] w fun e w' => e = .returned (textR (growTo ss k word.data.toList)) ∧ Below w.heap.size w w' := by
  obtain ⟨h0, h1, h2, _, h4⟩ := fault_zero h
  obtain ⟨i0, hi, hz0, hz1, hz2⟩ := info_parts infoU8
  have H0 := Lib.hid h0
  have H2 := Lib.hid h2
  clear h h0 h2
  have hk : k ≤ 60 := by omega
  go_enter Tryd.func17, Tryd.ntmps17
  go_wp2_with (refine Ops.wpList_bytes _ rfl 9 76 5 _ rfl Tryd.underlying9 Tryd.underlying76 Tryd.underlying5 _ rfl ?_; intro cap b C w2 hb hsl hb2 hcell)
  have hc0 : Cells w2 (some ⟨b, 0, none⟩) word.size (fun i => .int .u8 ((word.data.toList.getD i 0).toNat : Int)) := fun i hi => ⟨b, 0, rfl, hsl.lt, by rw [Nat.zero_add]; exact (hsl.cell i).trans (hcell i hi)⟩
  have HC0 := Lib.hid hc0
  clear hc0 hcell hsl
  go_loopw [8, 9] (fun v u wr => ∃ (i : Nat) (s : ByteArray) (ad : Option Addr) (cp : Nat), i ≤ k ∧ u = .int .i64 i ∧ v = .slice ad s.size cp ∧ Cells wr ad s.size (fun i => .int .u8 ((s.data.toList.getD i 0).toNat : Int)) ∧ (ad = none → s.size = 0) ∧ s.size ≤ 40000 ∧ letters ss.length s.data.toList = true ∧ growTo ss k word.data.toList = growTo ss (k - i) s.data.toList ∧ Below w.heap.size w wr) (fun _ u _ => k - (intOf u).toNat)
  case atStart => exact ⟨0, word, _, cap, Nat.zero_le _, rfl, rfl, HC0.out, fun x => (by cases x), h1, H2.out, rfl, hb2⟩
  case round =>
    obtain ⟨i, s, ad, cp, hi', rfl, rfl, hcl, hnil, hl, hlet, hg, hbel⟩ := hrel
    have HL := Lib.hid hlet
    have HG := Lib.hid hg
    have HCL := Lib.hid hcl
    have HNIL := Lib.hid hnil
    clear hlet hg hcl hnil
    by_cases hlt : i < k
    · have HGN := Lib.hid (grow_next (ss := ss) (l := s.data.toList) hlt)
      have HGF := Lib.hid (grow_full (ss := ss) (l := s.data.toList) hlt)
      go_wp2
      have hwq : w.heap.size ≤ wr.heap.size := hbel.size
      obtain ⟨wo, rfl⟩ : ∃ wo : World, wo = wr := ⟨_, rfl⟩
      go_loopw [10, 11] (fun v u w3 => ∃ (j : Nat) (ao : Option Addr) (co : Nat), j ≤ s.size ∧ u = .int .i64 j ∧ v = .slice ao (roundW ss (s.data.toList.take j)).length co ∧ (roundW ss (s.data.toList.take j)).length ≤ 40000 ∧ w3.ownsRow wo.heap.size 5 1 v (roundW ss (s.data.toList.take j)).length (Lib.byteCells (roundW ss (s.data.toList.take j))) ∧ Below wo.heap.size wo w3) (fun _ u _ => s.size - (intOf u).toNat)
      case atStart => exact ⟨0, none, 0, Nat.zero_le _, rfl, rfl, Nat.zero_le _, ⟨rfl, .inl ⟨rfl, rfl⟩⟩, Below.refl _ _⟩
      case round =>
        obtain ⟨j, ao, co, hj, rfl, rfl, hlr, hown, hb4⟩ := hrel
        by_cases hjl : j < s.size
        · have hjl' : j < s.data.toList.length := by rw [← Lib.size_eq]; exact hjl
          obtain ⟨b', off', rfl, _, hc⟩ := (HCL.out.keep hb4) j hjl
          dsimp only at hc
          have hlt' := isLetter_lt (letters_mem HL.out (getD_mem hjl'))
          have HRT := Lib.hid (round_take (ss := ss) hjl')
          have HTL := Lib.hid (round_take_le ss s.data.toList (j + 1))
          clear hjl'
          generalize s.data.toList.getD j 0 = x at *
          have hx : x.toNat < 256 := x.toNat_lt
          obtain ⟨hx1, hx2⟩ := hlt'
          have hxn : x.toNat - 97 < n := by have := hS.len; omega
          have hxi : ((x.toNat : Int) - 97).toNat = x.toNat - 97 := by omega
          obtain ⟨b2, off2, rfl, hbl, hc'⟩ := (hS.keep (hbel.trans (hb4.mono hwq))).cells (x.toNat - 97) hxn
          dsimp only at hc'
          have hsz := (images_mem H0.out _ (getD_mem_ss hx2)).1
          have HRT2 : Hid (roundW ss (s.data.toList.take (j + 1)) = roundW ss (s.data.toList.take j) ++ (ss.getD (x.toNat - 97) ByteArray.empty).data.toList) := HRT.out
          clear HRT
          generalize ss.getD (x.toNat - 97) ByteArray.empty = t at *
          have HLEN : Hid ((roundW ss (s.data.toList.take (j + 1))).length = (roundW ss (s.data.toList.take j)).length + t.size) := by
            have := congrArg List.length HRT2.out
            rw [List.length_append, ← Lib.size_eq] at this
            exact this
          have HCELL : Hid (Lib.byteCells (roundW ss (s.data.toList.take (j + 1))) = Lib.byteCells (roundW ss (s.data.toList.take j)) ++ Lib.strCells t) := by
            have := congrArg Lib.byteCells HRT2.out
            rw [byteCells_app] at this
            exact this
          have HOWN := Lib.hid hown
          clear hown
          generalize (roundW ss (s.data.toList.take j)).length = m at *
          go_wp2_with (at_builtin; refine Lib.wpList_append_own_string _ rfl _ _ 76 9 rfl wo.heap.size 5 i0 Tryd.underlying76 Tryd.underlying9 hi hz0 hz1 hz2 _ _ _ rfl HOWN.out t rfl ?c3 ?c4 ?c5 ?_)
          case c3 => unfold maxLen; omega
          case c4 => omega
          case c5 => exact hb4.size
          intro v' w5 hown' hgrow _
          have hsh : ∃ ao' co', v' = .slice ao' (m + t.size) co' := by
            rcases hown'.2 with ⟨hv, h0⟩ | ⟨g, cap, cur, hv, _⟩
            · exact ⟨none, 0, by rw [hv, h0]⟩
            · exact ⟨some ⟨g, 0, none⟩, cap, hv⟩
          obtain ⟨ao', co', rfl⟩ := hsh
          have hb5 : Below wo.heap.size wo w5 := hb4.grown hgrow hb4.size (fun q hq => (HOWN.out.lt q hq).1)
          have HO5 : Hid (w5.ownsRow wo.heap.size 5 1 (.slice ao' (m + t.size) co') (m + t.size) (Lib.byteCells (roundW ss (s.data.toList.take (j + 1))))) := by rw [HCELL.out]; exact hown'
          have hbw := hbel.trans (hb5.mono hwq)
          clear hown' hgrow hc hc'
          by_cases hful : 40000 < m + t.size
          · have HF := Lib.hid (textR_none (HG.out.trans (HGF.out (by have := HTL.out; have := HLEN.out; omega))))
            go_wp2
            go_ret2
            exact ⟨congrArg Ending.returned HF.out.symm, hbw⟩
          · go_wp2
            go_roundw
            case rel => exact ⟨j + 1, ao', co', by omega, by go_num, by rw [HLEN.out], by rw [HLEN.out]; omega, by rw [HLEN.out]; exact HO5.out, hb5⟩
            case measure => simp [intOf]; omega
        · have HRA := Lib.hid (round_all (ss := ss) (s := s) (j := j) (by omega))
          rw [HRA.out] at hlr hown
          have hoc := Ops.own_cells hown rfl
          have HOC := Lib.hid hoc
          have hrl := Lib.hid (round_letters H0.out HL.out)
          clear hown hoc
          rw [HRA.out]
          obtain ⟨t, ht⟩ : ∃ t : ByteArray, t = ⟨(roundW ss s.data.toList).toArray⟩ := ⟨_, rfl⟩
          have htl : t.data.toList = roundW ss s.data.toList := by rw [ht]
          have hts : (roundW ss s.data.toList).length = t.size := by rw [Lib.size_eq, htl]
          rw [← htl] at HOC hrl HGN
          rw [← htl] at hts hlr
          rw [← htl]
          have HTS := Lib.hid hts
          rw [hts] at hlr HOC
          rw [hts]
          have HGN2 := Lib.hid (HG.out.trans (HGN.out (by rw [HTS.out]; omega)))
          clear htl hts ht
          go_wp2
          go_roundw
          case rel => exact ⟨i + 1, t, ao, co, by omega, by go_num, rfl, HOC.out.1, HOC.out.2, hlr, hrl.out, HGN2.out, hbel.trans (hb4.mono hwq)⟩
          case measure => simp [intOf]; omega
    · have : i = k := by omega
      subst this
      have HF := Lib.hid (textR_some (HG.out.trans (by rw [Nat.sub_self]; rfl)))
      go_wp2_with (refine Ops.wpList_string rfl 76 9 5 _ rfl Tryd.underlying76 Tryd.underlying5 Tryd.underlying9 ad cp s rfl HCL.out HNIL.out ?_)
      go_ret2
      refine ⟨congrArg Ending.returned ?_, hbel⟩
      rw [HF.out, Lib.mk_data]
      rfl
end Gr
end Go.Proofs.YthggpjpmjhaidaaDoor
