/- WALK: counter.read, the function itself. -/
import Derived.Test.YtfhhnajnanlmgaaGreatDoorRdW
namespace Go.Proofs.YtfhhnajnanlmgaaGreatDoor
set_option linter.unusedSimpArgs false
set_option linter.unusedVariables false
open Go.RowKit Go.Shelf
namespace Rd
open Tld Mem Cr

set_option maxHeartbeats 8000000 in
set_option maxRecDepth 1000000 in
theorem read_any (s : ByteArray) (w : World) (hs : s.size ≤ 1048576) (hm : ∃ m, w.cell? ⟨4, 0, none⟩ = some (.int .i64 m)) : Calls Tryz.prog 17 #[.string s] w (ReadP w (lineR s.data.toList)) := by
  obtain ⟨o, ho⟩ : ∃ o, o = lineR s.data.toList := ⟨_, rfl⟩
  rw [← ho]
  obtain ⟨f, fs, hseg⟩ : ∃ f fs, segc 32 s.data.toList = f :: fs := by
    rcases h : segc 32 s.data.toList with _ | ⟨f, fs⟩
    · exact absurd h (segc_ne _ _)
    · exact ⟨f, fs, rfl⟩
  have HO : Hid (o = lineF f fs) := ho.trans (lineR_F hseg)
  have hnum := segc_num (c := 32) (l := s.data.toList)
  have hlen : ∀ g ∈ f :: fs, g.length ≤ s.data.toList.length := fun g hg => segc_len (c := 32) (by rw [hseg]; exact hg)
  rw [hseg, ← Lib.size_eq] at hnum
  rw [← Lib.size_eq] at hlen
  rw [List.length_cons] at hnum
  have HLEN := Lib.hid hlen
  clear hlen ho
  go_enter Tryz.func17, Tryz.ntmps17
  go_upto_region 1 with fail
  have hB0 : Below w.heap.size w (w.alloc (.cells #[.int .i64 0, .int .i64 0, .int .i64 0, .int .i64 0] 34)) := (Below.refl _ _).alloc (Nat.le_refl _) _
  have hR0 : Row (w.alloc (.cells #[.int .i64 0, .int .i64 0, .int .i64 0, .int .i64 0] 34)) w.heap.size 34 [.int .i64 0, .int .i64 0, .int .i64 0, .int .i64 0] := row_alloc w _ _
  obtain ⟨m, hm⟩ := hm
  have hm1 : ∃ m, (w.alloc (.cells #[.int .i64 0, .int .i64 0, .int .i64 0, .int .i64 0] 34)).cell? ⟨4, 0, none⟩ = some (.int .i64 m) := ⟨m, cell_later hB0 hm⟩
  obtain ⟨b0, hb0⟩ : ∃ b0, b0 = w.heap.size := ⟨_, rfl⟩
  rw [← hb0] at hR0 ⊢
  have HB := Lib.hid hB0
  have HR := Lib.hid hR0
  have HB0 := Lib.hid hb0
  clear hb0 hR0 hB0 hm
  generalize w.alloc (.cells #[.int .i64 0, .int .i64 0, .int .i64 0, .int .i64 0] 34) = w1 at *
  have HSP := Lib.hid (split_any 32 s w1 hs hm1)
  rw [hseg] at HSP
  clear hm1 hseg
  go_wp2_with fail
  refine HSP.out.mono ?_
  rintro e1 w2 ⟨PS, hPS, rfl, hrp, hb2⟩
  have HRL := Lib.hid HR.out.lt
  clear HSP
  have HR := Lib.hid (HR.out.keep hb2 HR.out.lt)
  have HB := Lib.hid (HB.out.trans (hb2.mono HB.out.size))
  obtain ⟨p0, hp0⟩ : ∃ p0, p0 = w1.heap.size := ⟨_, rfl⟩
  have hp00 : b0 < p0 := by rw [hp0]; exact HRL.out
  rw [← hp0] at hrp ⊢
  have HRP := Lib.hid hrp
  clear hrp hp0 hb2
  have hpl : PS.length = fs.length + 1 := by have := congrArg List.length hPS; rw [List.length_map, List.length_cons] at this; exact this
  rw [hpl]
  have HPS := Lib.hid hPS
  clear hPS hpl
  go_wp2_with fail
  go_loopw [5] (fun v wr => ∃ k : Nat, 1 ≤ k ∧ k ≤ 4 ∧ v = .int .i64 (k : Nat) ∧ (∀ j : Nat, 1 ≤ j → j < k → ¬ fits f fs.length j) ∧ Row wr b0 34 [.int .i64 0, .int .i64 0, .int .i64 0, .int .i64 0] ∧ Row wr p0 9 (PS.map Value.string) ∧ Below w.heap.size w wr) (fun v _ => 4 - (RowKit.intOf v).toNat)
  case atStart => exact ⟨1, by omega, by omega, rfl, fun j h1 h2 => by omega, HR.out, HRP.out, HB.out⟩
  case round =>
    clear HR HRP HB
    obtain ⟨k, hk1, hk4, rfl, hnf, hR, hRP, hb⟩ := hrel
    have HR := Lib.hid hR
    have HRP := Lib.hid hRP
    have HB := Lib.hid hb
    have HNF := Lib.hid hnf
    clear hR hRP hb hnf
    by_cases hlt : k < 4
    · have hk3 : (k : Int) ≤ 3 := by omega
      have HFO := Lib.hid (formOf_any (k : Int))
      go_wp2_with fail
      refine (HFO.out wr).mono ?_
      rintro e3 w3 ⟨rfl, hb3⟩
      have HR := Lib.hid (HR.out.keep hb3 HR.out.lt)
      have HRP := Lib.hid (HRP.out.keep hb3 HRP.out.lt)
      have HB := Lib.hid (HB.out.trans (hb3.mono HB.out.size))
      clear hb3 HFO
      go_upto_region 6 with fail
      have hnk : 0 ≤ numsOf (k : Int) ∧ numsOf (k : Int) ≤ 3 := by unfold numsOf; split <;> (try split) <;> omega
      have hfi : fits f fs.length (k : Int) ↔ f = (wordOf (k : Int)).data.toList ∧ (fs.length : Int) = numsOf (k : Int) := Iff.rfl
      have HSOME := Lib.hid (fun h => HO.out.trans (fits_some (f := f) (fs := fs) hk1 hlt h))
      have HNX : Hid (¬ fits f fs.length (k : Int) → ∀ j : Nat, 1 ≤ j → j < k + 1 → ¬ fits f fs.length j) := fun h j h1 h2 => by
        rcases Nat.lt_or_ge j k with h3 | h3
        · exact HNF.out j h1 h3
        · have : j = k := by omega
          rw [this]; exact h
      obtain ⟨P, PT, hPP⟩ : ∃ P PT, PS = P :: PT := by
        rcases h : PS with _ | ⟨P, PT⟩
        · have := HPS.out
          rw [h] at this
          cases this
        · exact ⟨P, PT, rfl⟩
      subst hPP
      have hPf : P.data.toList = f := by have := HPS.out; rw [List.map_cons] at this; exact (List.cons.inj this).1
      have hPT : PT.map (·.data.toList) = fs := by have := HPS.out; rw [List.map_cons] at this; exact (List.cons.inj this).2
      have hqa : (P.toList == (wordOf (k : Int)).toList) = decide (f = (wordOf (k : Int)).data.toList) := by
        rw [Lib.toList_data, Lib.toList_data, hPf]
        by_cases h : f = (wordOf (k : Int)).data.toList
        · rw [decide_eq_true h, beq_iff_eq]; exact h
        · rw [decide_eq_false h, beq_eq_false_iff_ne]; exact h
      have HPT := Lib.hid hPT
      have hbn : Below w3.heap.size w3 (w3.alloc (.cells #[.string (wordOf (k : Int)), .int .i64 (numsOf (k : Int))] 65)) := (Below.refl _ _).alloc (Nat.le_refl _) _
      have hr6 : Row (w3.alloc (.cells #[.string (wordOf (k : Int)), .int .i64 (numsOf (k : Int))] 65)) w3.heap.size 65 [.string (wordOf (k : Int)), .int .i64 (numsOf (k : Int))] := row_alloc w3 _ _
      have HR := Lib.hid (HR.out.keep hbn HR.out.lt)
      have HRP := Lib.hid (HRP.out.keep hbn HRP.out.lt)
      have HB := Lib.hid (HB.out.trans (hbn.mono HB.out.size))
      obtain ⟨b6, hb6⟩ : ∃ b6, b6 = w3.heap.size := ⟨_, rfl⟩
      rw [← hb6] at hr6 ⊢
      have HR6 := Lib.hid hr6
      clear hb6 hbn hr6 hPf hPT
      generalize w3.alloc (.cells #[.string (wordOf (k : Int)), .int .i64 (numsOf (k : Int))] 65) = w4 at *
      have c60 := HR6.out.cell 0
      have c61 := HR6.out.cell 1
      have cp0 := HRP.out.cell 0
      rw [List.map_cons] at cp0
      dsimp only [List.getElem?_cons_succ, List.getElem?_cons_zero] at c60 c61 cp0
      generalize wordOf (k : Int) = wd at *
      generalize numsOf (k : Int) = nk at *
      have hnk0 := hnk.1
      have hnk3 := hnk.2
      have HK4 : Hid (k + 1 ≤ 4) := hlt
      clear hnk
      by_cases hfw : f = wd.data.toList
      · have qa : (P.toList == wd.toList) = true := hqa.trans (decide_eq_true hfw)
        by_cases hnn : (fs.length : Int) = nk
        · have HF := Lib.hid (HSOME.out (hfi.2 ⟨hfw, hnn⟩))
          have qb : ((fs.length : Int) + 1 == nk + 1) = true := by rw [beq_iff_eq]; omega
          have qc : ((fs.length : Int) + 1 != nk + 1) = false := by rw [bne_eq_false_iff_eq]; omega
          have hfs3 : fs.length ≤ 3 := by omega
          clear hnn hfw hqa hfi HSOME HNX
          go_big_quiet (fail)
          go_upto_region 7 with fail
          obtain ⟨w5, hw5⟩ : ∃ w5, w5 = w4.drewN nq := ⟨_, rfl⟩
          have HR : Hid (Row w5 b0 34 [.int .i64 0, .int .i64 0, .int .i64 0, .int .i64 0]) := by rw [hw5]; exact Lib.hid (HR.out.drewN _)
          have HRP : Hid (Row w5 p0 9 ((P :: PT).map Value.string)) := by rw [hw5]; exact Lib.hid (HRP.out.drewN _)
          have HB : Hid (Below w.heap.size w w5) := by rw [hw5]; exact Lib.hid (below_q HB.out _)
          rw [← hw5]
          clear hw5 HR6 c60 c61 cp0 qa qb qc
          go_upto_region 8 with fail
          have hbn : Below w5.heap.size w5 (w5.alloc (.cells #[.int .i64 k, .int .i64 0, .int .i64 0, .int .i64 0] 34)) := (Below.refl _ _).alloc (Nat.le_refl _) _
          have hr8 : Row (w5.alloc (.cells #[.int .i64 k, .int .i64 0, .int .i64 0, .int .i64 0] 34)) w5.heap.size 34 [.int .i64 k, .int .i64 0, .int .i64 0, .int .i64 0] := row_alloc w5 _ _
          have hbs := Lib.hid HB.out.size
          have h08 : b0 ≠ w5.heap.size := Nat.ne_of_lt HR.out.lt
          have hp8 : p0 ≠ w5.heap.size := Nat.ne_of_lt HRP.out.lt
          have HR := Lib.hid (HR.out.keep hbn HR.out.lt)
          have HRP := Lib.hid (HRP.out.keep hbn HRP.out.lt)
          have HB := Lib.hid (HB.out.trans (hbn.mono HB.out.size))
          obtain ⟨b8, hb8⟩ : ∃ b8, b8 = w5.heap.size := ⟨_, rfl⟩
          rw [← hb8] at hr8 h08 hp8 ⊢
          have HX := Lib.hid hr8
          have HB8 : Hid (w.heap.size ≤ b8) := by show _ ≤ _; rw [hb8]; exact hbs.out
          clear hb8 hr8 hbn
          generalize w5.alloc (.cells #[.int .i64 k, .int .i64 0, .int .i64 0, .int .i64 0] 34) = w6 at *
          go_upto_region 9 with fail
          have hbn : Below w6.heap.size w6 (w6.alloc (.cells #[.pointer (some ⟨b8, 1, none⟩), .pointer (some ⟨b8, 2, none⟩), .pointer (some ⟨b8, 3, none⟩)] 81)) := (Below.refl _ _).alloc (Nat.le_refl _) _
          have hr9 : Row (w6.alloc (.cells #[.pointer (some ⟨b8, 1, none⟩), .pointer (some ⟨b8, 2, none⟩), .pointer (some ⟨b8, 3, none⟩)] 81)) w6.heap.size 81 [.pointer (some ⟨b8, 1, none⟩), .pointer (some ⟨b8, 2, none⟩), .pointer (some ⟨b8, 3, none⟩)] := row_alloc w6 _ _
          have h89 : w6.heap.size ≠ b8 := Nat.ne_of_gt HX.out.lt
          have HR := Lib.hid (HR.out.keep hbn HR.out.lt)
          have HRP := Lib.hid (HRP.out.keep hbn HRP.out.lt)
          have HX := Lib.hid (HX.out.keep hbn HX.out.lt)
          have HB := Lib.hid (HB.out.trans (hbn.mono HB.out.size))
          obtain ⟨b9, hb9⟩ : ∃ b9, b9 = w6.heap.size := ⟨_, rfl⟩
          rw [← hb9] at hr9 h89 ⊢
          have HT := Lib.hid hr9
          clear hb9 hr9 hbn
          generalize w6.alloc (.cells #[.pointer (some ⟨b8, 1, none⟩), .pointer (some ⟨b8, 2, none⟩), .pointer (some ⟨b8, 3, none⟩)] 81) = w7 at *
          by_cases hz : fs.length = 0
          · have hfs : fs = [] := List.eq_nil_of_length_eq_zero hz
            subst hfs
            have HF : Hid (o = some (mkI k [])) := HF
            have l1 : w7.rangeAt b8 0 [.int .i64 k, .int .i64 0, .int .i64 0, .int .i64 0] := fun j v hv => by
              rw [HX.out.cell, Nat.zero_add]
              exact hv
            have fr0 : w7.frozen? ⟨b0, 0, none⟩ = false := HR.out.frozen 0
            have fr1 : w7.frozen? ⟨b0, 1, none⟩ = false := HR.out.frozen 1
            have fr2 : w7.frozen? ⟨b0, 2, none⟩ = false := HR.out.frozen 2
            have fr3 : w7.frozen? ⟨b0, 3, none⟩ = false := HR.out.frozen 3
            have f0 := HR.out.cell 0
            have f1 := HR.out.cell 1
            have f2 := HR.out.cell 2
            have f3 := HR.out.cell 3
            dsimp only [List.getElem?_cons_succ, List.getElem?_cons_zero] at f0 f1 f2 f3
            simp only [List.length_nil] at *
            go_wp2_with fail
            go_loopw [48] (fun v wr2 => v = .int .i64 0 ∧ wr2 = w7) (fun _ _ => 0)
            case atStart => exact ⟨rfl, rfl⟩
            case round =>
              obtain ⟨rfl, rfl⟩ := hrel
              go_wp2_with (refine wpList_load_mid rfl 34 _ rfl b8 0 rfl _ _ l1 Tryz.underlying34 rfl infoIns ?_; clear l1)
              exact read_ret (q := mkI k []) (row_set4 HR.out _ _ _ _) rfl rfl rfl (below_set4 HB.out HB0.out _ _ _ _) HF.out
          · have hz2 : 0 < fs.length := by omega
            have hzi : (0 : Int) < (fs.length : Int) := by omega
            go_wp2_with fail
            go_loopw [48] (fun v wr2 => ∃ i : Nat, ∃ vs : List Int, i ≤ fs.length ∧ v = .int .i64 (i : Nat) ∧ mapF (fs.take i) = some vs ∧ Row wr2 b0 34 [.int .i64 0, .int .i64 0, .int .i64 0, .int .i64 0] ∧ Row wr2 p0 9 ((P :: PT).map Value.string) ∧
                Row wr2 b8 34 (xl k vs) ∧ Row wr2 b9 81 [.pointer (some ⟨b8, 1, none⟩), .pointer (some ⟨b8, 2, none⟩), .pointer (some ⟨b8, 3, none⟩)] ∧ Below w.heap.size w wr2 ∧ w.heap.size ≤ b8) (fun v _ => fs.length - (RowKit.intOf v).toNat)
            case atStart => exact ⟨0, [], Nat.zero_le _, rfl, rfl, HR.out, HRP.out, HX.out, HT.out, HB.out, HB8.out⟩
            case round =>
              clear HR HRP HX HT HB HB8
              obtain ⟨i, vs, hi, rfl, hmf, hR, hRP, hX, hT, hb, hb8⟩ := hrel
              have HR := Lib.hid hR
              have HRP := Lib.hid hRP
              have HX := Lib.hid hX
              have HT := Lib.hid hT
              have HB := Lib.hid hb
              have HB8 := Lib.hid hb8
              have HMF := Lib.hid hmf
              have hvl : vs.length = i := by have := mapF_len hmf; rw [List.length_take] at this; omega
              have HVL := Lib.hid hvl
              clear hR hRP hX hT hb hb8 hmf hvl
              by_cases hlt2 : i < fs.length
              · have hi2 : (i : Int) < (fs.length : Int) := by omega
                have hptl : PT.length = fs.length := by have := congrArg List.length HPT.out; rwa [List.length_map] at this
                have hPg : (PT.getD i ByteArray.empty).data.toList = fs.getD i [] := by
                  rw [List.getD_eq_getElem?_getD, List.getD_eq_getElem?_getD, ← HPT.out, List.getElem?_map, List.getElem?_eq_getElem (by omega)]
                  rfl
                have hgm : fs.getD i [] ∈ f :: fs := by
                  rw [List.getD_eq_getElem?_getD, List.getElem?_eq_getElem hlt2]
                  exact List.mem_cons_of_mem _ (List.getElem_mem hlt2)
                have hgl := HLEN.out _ hgm
                have cpi : wr.cell? ⟨p0, 1 + i, none⟩ = some (.string (PT.getD i ByteArray.empty)) := by
                  rw [HRP.out.cell, Nat.add_comm, List.map_cons, List.getElem?_cons_succ, List.getElem?_map, List.getD_eq_getElem?_getD, List.getElem?_eq_getElem (by omega)]
                  rfl
                have hsz : (PT.getD i ByteArray.empty).size ≤ 9223372036854775807 := by rw [Lib.size_eq, hPg]; omega
                have HFA := Lib.hid (fun wx => field_any (PT.getD i ByteArray.empty) wx hsz)
                rw [hPg] at HFA
                have HNONE := Lib.hid (mapF_none (fs := fs) hlt2)
                have HTAKE := Lib.hid (fun v => mapF_take (v := v) hlt2 HMF.out)
                clear hPg hgm hgl hsz hptl
                generalize PT.getD i ByteArray.empty = Pi at *
                obtain ⟨r, hr⟩ : ∃ r, r = field (fs.getD i []) := ⟨_, rfl⟩
                rw [← hr] at HFA HNONE HTAKE
                clear hr
                go_wp2_with fail
                refine (HFA.out wr).mono ?_
                rintro e8 w8 ⟨rfl, hb8⟩
                have HR := Lib.hid (HR.out.keep hb8 HR.out.lt)
                have HRP := Lib.hid (HRP.out.keep hb8 HRP.out.lt)
                have HX := Lib.hid (HX.out.keep hb8 HX.out.lt)
                have HT := Lib.hid (HT.out.keep hb8 HT.out.lt)
                have HB := Lib.hid (HB.out.trans (hb8.mono HB.out.size))
                clear hb8 cpi HFA
                unfold fieldQ
                cases r with
                | none =>
                  have HEND : Hid (o = none) := by
                    show _ = _
                    rw [HF.out, HNONE.out rfl]
                    rfl
                  dsimp only [Option.getD, Option.isSome]
                  clear HNONE HTAKE
                  have fr0 : w8.frozen? ⟨b0, 0, none⟩ = false := HR.out.frozen 0
                  have fr1 : w8.frozen? ⟨b0, 1, none⟩ = false := HR.out.frozen 1
                  have fr2 : w8.frozen? ⟨b0, 2, none⟩ = false := HR.out.frozen 2
                  have fr3 : w8.frozen? ⟨b0, 3, none⟩ = false := HR.out.frozen 3
                  have f0 := HR.out.cell 0
                  have f1 := HR.out.cell 1
                  have f2 := HR.out.cell 2
                  have f3 := HR.out.cell 3
                  dsimp only [List.getElem?_cons_succ, List.getElem?_cons_zero] at f0 f1 f2 f3
                  have l1 : w8.rangeAt b8 0 (xl k vs) := fun j v hv => by
                    rw [HX.out.cell, Nat.zero_add]
                    exact hv
                  have hxl : xl k vs = [.int .i64 (mkI k vs).op, .int .i64 (mkI k vs).a, .int .i64 (mkI k vs).t, .int .i64 (mkI k vs).e] := rfl
                  rw [hxl] at l1
                  obtain ⟨qq, hqq⟩ : ∃ qq, qq = mkI k vs := ⟨_, rfl⟩
                  rw [← hqq] at l1
                  clear hxl hqq
                  go_wp2_with (refine wpList_load_mid rfl 34 _ rfl b8 0 rfl _ _ l1 Tryz.underlying34 rfl infoIns ?_; clear l1)
                  exact read_ret (q := qq) (row_set4 HR.out _ _ _ _) rfl rfl rfl (below_set4 HB.out HB0.out _ _ _ _) HEND.out
                | some v =>
                  have HTK := Lib.hid (HTAKE.out v rfl)
                  have hi3 : i < 3 := by omega
                  have HXS := Lib.hid (xl_set (k := (k : Int)) HVL.out hi3 v)
                  dsimp only [Option.getD, Option.isSome]
                  clear HNONE HTAKE
                  have ct : w8.cell? ⟨b9, i, none⟩ = some (.pointer (some ⟨b8, 1 + i, none⟩)) := by
                    rw [HT.out.cell]
                    have : i = 0 ∨ i = 1 ∨ i = 2 := by omega
                    rcases this with rfl | rfl | rfl <;> rfl
                  obtain ⟨old, hold⟩ : ∃ z : Int, w8.cell? ⟨b8, 1 + i, none⟩ = some (.int .i64 z) := by
                    rw [HX.out.cell]
                    have : i = 0 ∨ i = 1 ∨ i = 2 := by omega
                    rcases this with rfl | rfl | rfl <;> exact ⟨_, rfl⟩
                  have hfr8 : w8.frozen? ⟨b8, 1 + i, none⟩ = false := HX.out.frozen _
                  have hi3i : (i : Int) < 3 := by omega
                  have HI := Lib.hid hlt2
                  go_wp2_with fail
                  refine ⟨⟨i + 1, vs ++ [v], HI.out, rfl, HTK.out, HR.out.other (only_setCell _ _ _ _) h08, HRP.out.other (only_setCell _ _ _ _) hp8, by rw [← HXS.out]; exact HX.out.set _ _, HT.out.other (only_setCell _ _ _ _) h89, HB.out.setCell HB8.out _, HB8.out⟩, ?_⟩
                  have := HI.out
                  simp [RowKit.intOf]; omega
              · obtain rfl : i = fs.length := by omega
                have HEND : Hid (o = some (mkI k vs)) := by
                  show _ = _
                  have := HMF.out
                  rw [List.take_length] at this
                  rw [HF.out, this]
                  rfl
                have hnl : ¬ (fs.length : Int) < (fs.length : Int) := by omega
                have fr0 : wr.frozen? ⟨b0, 0, none⟩ = false := HR.out.frozen 0
                have fr1 : wr.frozen? ⟨b0, 1, none⟩ = false := HR.out.frozen 1
                have fr2 : wr.frozen? ⟨b0, 2, none⟩ = false := HR.out.frozen 2
                have fr3 : wr.frozen? ⟨b0, 3, none⟩ = false := HR.out.frozen 3
                have f0 := HR.out.cell 0
                have f1 := HR.out.cell 1
                have f2 := HR.out.cell 2
                have f3 := HR.out.cell 3
                dsimp only [List.getElem?_cons_succ, List.getElem?_cons_zero] at f0 f1 f2 f3
                have l1 : wr.rangeAt b8 0 (xl k vs) := fun j v hv => by
                  rw [HX.out.cell, Nat.zero_add]
                  exact hv
                have hxl : xl k vs = [.int .i64 (mkI k vs).op, .int .i64 (mkI k vs).a, .int .i64 (mkI k vs).t, .int .i64 (mkI k vs).e] := rfl
                rw [hxl] at l1
                obtain ⟨qq, hqq⟩ : ∃ qq, qq = mkI k vs := ⟨_, rfl⟩
                rw [← hqq] at l1 HEND
                clear hxl hqq
                go_wp2_with (refine wpList_load_mid rfl 34 _ rfl b8 0 rfl _ _ l1 Tryz.underlying34 rfl infoIns ?_; clear l1)
                exact read_ret (q := qq) (row_set4 HR.out _ _ _ _) rfl rfl rfl (below_set4 HB.out HB0.out _ _ _ _) HEND.out
        · have HF := Lib.hid (HNX.out (fun h => hnn (hfi.1 h).2))
          have qb : ((fs.length : Int) + 1 == nk + 1) = false := by rw [beq_eq_false_iff_ne]; omega
          have qc : ((fs.length : Int) + 1 != nk + 1) = true := by rw [bne_iff_ne]; omega
          clear hnn hfw hqa hfi HSOME HNX
          go_big_quiet (fail)
          go_wp2_with fail
          go_roundw
          case rel => exact ⟨k + 1, by omega, HK4.out, by go_num, HF.out, HR.out.drewN _, HRP.out.drewN _, below_q HB.out _⟩
          case measure => have := HK4.out; simp [RowKit.intOf]; omega
      · have qa : (P.toList == wd.toList) = false := hqa.trans (decide_eq_false hfw)
        have HF := Lib.hid (HNX.out (fun h => hfw (hfi.1 h).1))
        clear hfw hqa hfi HSOME HNX
        go_big_quiet (fail)
        go_wp2_with fail
        go_roundw
        case rel => exact ⟨k + 1, by omega, HK4.out, by go_num, HF.out, HR.out.drewN _, HRP.out.drewN _, below_q HB.out _⟩
        case measure => have := HK4.out; simp [RowKit.intOf]; omega
    · obtain rfl : k = 4 := by omega
      have HN : Hid (o = none) := by
        show _ = _
        rw [HO.out, fits_none HNF.out]
      have hk3 : ¬ ((4 : Nat) : Int) ≤ 3 := by omega
      have fr0 : wr.frozen? ⟨b0, 0, none⟩ = false := HR.out.frozen 0
      have fr1 : wr.frozen? ⟨b0, 1, none⟩ = false := HR.out.frozen 1
      have fr2 : wr.frozen? ⟨b0, 2, none⟩ = false := HR.out.frozen 2
      have fr3 : wr.frozen? ⟨b0, 3, none⟩ = false := HR.out.frozen 3
      have f0 := HR.out.cell 0
      have f1 := HR.out.cell 1
      have f2 := HR.out.cell 2
      have f3 := HR.out.cell 3
      dsimp only [List.getElem?_cons_succ, List.getElem?_cons_zero] at f0 f1 f2 f3
      go_wp2_with fail
      exact read_ret (q := ⟨0, 0, 0, 0⟩) (row_set4 HR.out _ _ _ _) rfl rfl rfl (below_set4 HB.out HB0.out _ _ _ _) HN.out
end Rd
end Go.Proofs.YtfhhnajnanlmgaaGreatDoor
