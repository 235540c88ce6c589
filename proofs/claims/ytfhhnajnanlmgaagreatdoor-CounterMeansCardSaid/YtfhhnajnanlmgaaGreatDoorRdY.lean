/- WALK: counter.Parse: a machine's text by strings.Split. -/
import Derived.Test.YtfhhnajnanlmgaaGreatDoorRdX
namespace Go.Proofs.YtfhhnajnanlmgaaGreatDoor
set_option linter.unusedSimpArgs false
set_option linter.unusedVariables false
open Go.RowKit Go.Shelf
namespace Rd
open Tld Mem Cr

def ParP (w : World) (p : Nat × Option (List In)) (e : Ending) (w' : World) : Prop :=
  (match p.2 with
  | none => e = .returned (.tuple #[.slice none 0 0, .int .i64 (p.1 : Nat), .iface 53 (.int .i64 2)])
  | some zs => (codeF (insF zs) zs.length = 0 → ∃ v, e = .returned (.tuple #[v, .int .i64 0, .nilIface]) ∧ w'.ownsRow w.heap.size 34 4 v zs.length (insL zs)) ∧
      (codeF (insF zs) zs.length ≠ 0 → e = .returned (.tuple #[.slice none 0 0, .int .i64 (p.1 : Nat), .iface 53 (.int .i64 (codeF (insF zs) zs.length))]))) ∧ Below w.heap.size w w'
theorem ParP.bad {w w' : World} {p : Nat × Option (List In)} {n : Nat} {e : Ending} (hp : p = (n, none)) (h : e = .returned (.tuple #[.slice none 0 0, .int .i64 (n : Nat), .iface 53 (.int .i64 2)])) (hb : Below w.heap.size w w') : ParP w p e w' := by
  subst hp
  exact ⟨h, hb⟩
theorem ParP.wrong {w w' : World} {p : Nat × Option (List In)} {n : Nat} {zs : List In} {e : Ending} {k : Int} (hp : p = (n, some zs)) (hk : codeF (insF zs) zs.length = k) (h0 : k ≠ 0) (h : e = .returned (.tuple #[.slice none 0 0, .int .i64 (n : Nat), .iface 53 (.int .i64 k)])) (hb : Below w.heap.size w w') : ParP w p e w' := by
  subst hp hk
  exact ⟨⟨fun h2 => absurd h2 h0, fun _ => h⟩, hb⟩
theorem ParP.ok {w w' : World} {p : Nat × Option (List In)} {n : Nat} {zs : List In} {e : Ending} {v : Value} (hp : p = (n, some zs)) (hk : codeF (insF zs) zs.length = 0) (h : e = .returned (.tuple #[v, .int .i64 0, .nilIface])) (h2 : w'.ownsRow w.heap.size 34 4 v zs.length (insL zs)) (hb : Below w.heap.size w w') : ParP w p e w' := by
  subst hp
  exact ⟨⟨fun _ => ⟨v, h, h2⟩, fun h3 => absurd hk h3⟩, hb⟩

set_option maxHeartbeats 8000000 in
set_option maxRecDepth 1000000 in
theorem Parse_any (s : ByteArray) (w : World) (hs : s.size ≤ 1048576) (hm : ∃ m, w.cell? ⟨4, 0, none⟩ = some (.int .i64 m)) : Calls Tryz.prog 5 #[.string s] w (ParP w (parseF (segc 10 s.data.toList) [])) := by
  obtain ⟨q0, hI0, hz0, hz1, hz2⟩ := info_parts infoInsN
  have HI0 := Lib.hid hI0
  have HZ0 := Lib.hid hz0
  have HZ1 := Lib.hid hz1
  have HZ2 := Lib.hid hz2
  clear hI0 hz0 hz1 hz2
  obtain ⟨o, ho⟩ : ∃ o, o = parseF (segc 10 s.data.toList) [] := ⟨_, rfl⟩
  rw [← ho]
  have hnum := segc_num (c := 10) (l := s.data.toList)
  have hlen : ∀ g ∈ segc 10 s.data.toList, g.length ≤ s.data.toList.length := fun g hg => segc_len hg
  rw [← Lib.size_eq] at hnum hlen
  have hne := segc_ne 10 s.data.toList
  have HSP := Lib.hid (split_any 10 s w hs hm)
  generalize segc 10 s.data.toList = sg at *
  have HLEN := Lib.hid hlen
  have HO0 := Lib.hid ho
  have HM := Lib.hid hm
  obtain ⟨N, hN⟩ : ∃ N, sg.length = N + 1 := ⟨sg.length - 1, by have := List.length_pos_iff.2 hne; omega⟩
  have HSG := Lib.hid hN
  clear hlen ho hm hne
  have hN20 : N ≤ 1048576 := by omega
  clear hnum hN
  go_enter Tryz.func5, Tryz.ntmps5
  go_wp2_with fail
  refine HSP.out.mono ?_
  rintro e1 w2 ⟨PS, hPS, rfl, hrp, hb2⟩
  clear HSP
  obtain ⟨p0, hp0⟩ : ∃ p0, p0 = w.heap.size := ⟨_, rfl⟩
  rw [← hp0] at hrp ⊢
  have HRP := Lib.hid hrp
  have HB := Lib.hid hb2
  have HP0 := Lib.hid hp0
  clear hrp hp0 hb2
  have hpl : PS.length = N + 1 := by have := congrArg List.length hPS; rw [List.length_map, HSG.out] at this; exact this
  rw [hpl]
  have HPL := Lib.hid hpl
  have HPS := Lib.hid hPS
  clear hPS hpl
  go_wp2_with fail
  go_loopw [22, 7] (fun v l wr => ∃ i : Nat, ∃ zs : List In, i ≤ N ∧ v = .int .i64 (i : Nat) ∧ zs.length = i ∧ o = parseF (sg.drop i) zs ∧ wr.ownsRow w.heap.size 34 4 l i (insL zs) ∧ Row wr p0 9 (PS.map Value.string) ∧ Below w.heap.size w wr) (fun v _ _ => N - (RowKit.intOf v).toNat)
  case atStart => exact ⟨0, [], Nat.zero_le _, rfl, rfl, HO0.out, own_nil _ _ _ _, HRP.out, HB.out⟩
  case round =>
    clear HO0 HRP HB
    obtain ⟨i, zs, hi, rfl, hzl, hoo, how, hRP, hb⟩ := hrel
    obtain ⟨va, vc, rfl⟩ := own_slice how
    have HW := Lib.hid how
    have HRP := Lib.hid hRP
    have HB := Lib.hid hb
    have HOO := Lib.hid hoo
    have HZL := Lib.hid hzl
    clear how hb hoo hzl hRP
    have hil : i < PS.length := by rw [HPL.out]; omega
    have hil2 : i < sg.length := by rw [HSG.out]; omega
    have hPg : (PS.getD i ByteArray.empty).data.toList = sg.getD i [] := by
      rw [List.getD_eq_getElem?_getD, List.getD_eq_getElem?_getD, ← HPS.out, List.getElem?_map, List.getElem?_eq_getElem hil]
      rfl
    have cpi : wr.cell? ⟨p0, i, none⟩ = some (.string (PS.getD i ByteArray.empty)) := by
      rw [HRP.out.cell, List.getElem?_map, List.getD_eq_getElem?_getD, List.getElem?_eq_getElem hil]
      rfl
    have hsd : sg.drop i = sg.getD i [] :: sg.drop (i + 1) := by
      rw [List.drop_eq_getElem_cons hil2, List.getD_eq_getElem?_getD, List.getElem?_eq_getElem hil2]
      rfl
    have hgm : sg.getD i [] ∈ sg := by
      rw [List.getD_eq_getElem?_getD, List.getElem?_eq_getElem hil2]
      exact List.getElem_mem hil2
    have hgl := HLEN.out _ hgm
    have hpsz : (PS.getD i ByteArray.empty).size ≤ 1048576 := by rw [Lib.size_eq, hPg]; omega
    have hse := Lib.size_eq (PS.getD i ByteArray.empty)
    rw [hPg] at hse
    have HPG := Lib.hid hPg
    have HSE := Lib.hid hse
    clear hil hil2 hgm hgl hPg hse
    generalize PS.getD i ByteArray.empty = Pi at *
    by_cases hlt : i < N
    · have hi2 : (i : Int) < (N : Int) := by omega
      have HLT := Lib.hid hlt
      have hdn : sg.drop (i + 1) ≠ [] := fun e => by
        have := congrArg List.length e
        rw [List.length_drop, HSG.out, List.length_nil] at this
        omega
      have HOO := Lib.hid (HOO.out.trans (by rw [hsd]))
      have HDN := Lib.hid hdn
      obtain ⟨m, hm⟩ := HM.out
      have HRD := Lib.hid (read_any Pi wr hpsz ⟨m, cell_later HB.out hm⟩)
      rw [HPG.out] at HRD
      obtain ⟨r, hr⟩ : ∃ r, r = lineR (sg.getD i []) := ⟨_, rfl⟩
      rw [← hr] at HRD
      have HR := Lib.hid hr
      clear hr hm hdn hsd hpsz
      go_wp2_with fail
      refine HRD.out.mono ?_
      intro e1 w1 hrd
      have hb1 := hrd.2
      have HW := Lib.hid (own_stays HW.out hb1)
      have HRP := Lib.hid (HRP.out.keep hb1 HRP.out.lt)
      have HB := Lib.hid (HB.out.trans (hb1.mono HB.out.size))
      clear hb1 HRD cpi
      cases r with
      | none =>
        have HN : Hid (o = (i, none)) := by
          show _ = _
          rw [HOO.out, parseF_bad HDN.out HR.out.symm, HZL.out]
        obtain ⟨⟨q, rfl⟩, hbx⟩ := hrd
        clear HOO HR hbx
        unfold In.v
        generalize q.op = x0 at *
        generalize q.a = x1 at *
        generalize q.t = x2 at *
        generalize q.e = x3 at *
        go_upto_region 8 with fail
        have hbn : Below w1.heap.size w1 (w1.alloc (.cells #[.int .i64 x0, .int .i64 x1, .int .i64 x2, .int .i64 x3] 34)) := (Below.refl _ _).alloc (Nat.le_refl _) _
        have HB := Lib.hid (HB.out.trans (hbn.mono HB.out.size))
        clear hbn
        go_wp2_with fail
        go_ret3
        exact ParP.bad HN.out rfl HB.out
      | some q =>
        have HN : Hid (o = parseF (sg.drop (i + 1)) (zs ++ [q])) := by
          show _ = _
          rw [HOO.out, parseF_next HDN.out HR.out.symm]
        obtain ⟨rfl, hbx⟩ := hrd
        clear HOO HR hbx
        unfold In.v
        have hql : q.l = [.int .i64 q.op, .int .i64 q.a, .int .i64 q.t, .int .i64 q.e] := rfl
        have HNX := Lib.hid (insL_next zs q)
        rw [hql] at HNX
        clear hql
        generalize q.op = x0 at *
        generalize q.a = x1 at *
        generalize q.t = x2 at *
        generalize q.e = x3 at *
        go_upto_region 8 with fail
        have hbn : Below w1.heap.size w1 (w1.alloc (.cells #[.int .i64 x0, .int .i64 x1, .int .i64 x2, .int .i64 x3] 34)) := (Below.refl _ _).alloc (Nat.le_refl _) _
        have HW := Lib.hid (own_stays HW.out hbn)
        have HRP := Lib.hid (HRP.out.keep hbn HRP.out.lt)
        have HB := Lib.hid (HB.out.trans (hbn.mono HB.out.size))
        have hr9 : Row (w1.alloc (.cells #[.int .i64 x0, .int .i64 x1, .int .i64 x2, .int .i64 x3] 34)) w1.heap.size 34 [.int .i64 x0, .int .i64 x1, .int .i64 x2, .int .i64 x3] := row_alloc w1 _ _
        obtain ⟨b9, hb9⟩ : ∃ b9, b9 = w1.heap.size := ⟨_, rfl⟩
        rw [← hb9] at hr9 ⊢
        have HR9 := Lib.hid hr9
        clear hb9 hr9 hbn
        generalize w1.alloc (.cells #[.int .i64 x0, .int .i64 x1, .int .i64 x2, .int .i64 x3] 34) = w2 at *
        have l1 : w2.rangeAt b9 0 [.int .i64 x0, .int .i64 x1, .int .i64 x2, .int .i64 x3] := fun j v hv => by
          rw [HR9.out.cell, Nat.zero_add]
          exact hv
        have hbn : Below w2.heap.size w2 (w2.alloc (.cells #[.int .i64 x0, .int .i64 x1, .int .i64 x2, .int .i64 x3] 34)) := (Below.refl _ _).alloc (Nat.le_refl _) _
        have HOa := Lib.hid (own_stays HW.out hbn)
        have HRPa := Lib.hid (HRP.out.keep hbn HRP.out.lt)
        have HBa := Lib.hid (HB.out.trans (hbn.mono HB.out.size))
        have hrw : Row (w2.alloc (.cells #[.int .i64 x0, .int .i64 x1, .int .i64 x2, .int .i64 x3] 34)) w2.heap.size 34 [.int .i64 x0, .int .i64 x1, .int .i64 x2, .int .i64 x3] := row_alloc w2 _ _
        have HRW := Lib.hid hrw
        have HLN : Hid (i < 1048576) := Lib.hid (by omega)
        clear hbn hrw
        go_upto_region 10 with fail
        go_upto_region 11 with (first
          | (refine wpList_load_mid rfl 34 _ rfl b9 0 rfl _ _ l1 Tryz.underlying34 rfl infoIns ?_; clear l1)
          | (at_builtin; refine wpList_app rfl _ _ 22 rfl w.heap.size 34 q0 _ 4 32 Tryz.underlying22 HI0.out HZ0.out HZ1.out HZ2.out rfl (by decide) _ i _ rfl HOa.out w2.heap.size 1 1 [.int .i64 x0, .int .i64 x1, .int .i64 x2, .int .i64 x3] rfl rfl HRW.out (by simp [Value.oneCell']) ?c1 ?c2 HBa.out.size (by omega) ?_))
        case c1 => have := HLN.out; unfold maxLen; omega
        case c2 => have := HLN.out; omega
        intro ao' co' w3 hO3 hg3
        have HB3 := Lib.hid (HBa.out.grown hg3 HBa.out.size (own_low HOa.out))
        have HRP3 := Lib.hid (row_grown HOa.out hg3 HRPa.out (by decide))
        have HO3 := Lib.hid hO3
        clear hO3 hg3 HOa HBa HRW
        go_wp2_with fail
        refine ⟨⟨i + 1, zs ++ [q], HLT.out, rfl, by rw [List.length_append, HZL.out]; rfl, HN.out, by rw [HNX.out]; exact HO3.out, HRP3.out, HB3.out⟩, ?_⟩
        have := HLT.out
        simp [RowKit.intOf]; omega
    · obtain rfl : i = N := by omega
      have hnl : ¬ (i : Int) < (i : Int) := by omega
      have hdn : sg.drop (i + 1) = [] := List.drop_eq_nil_of_le (by rw [HSG.out]; omega)
      have hoo : o = (i, if sg.getD i [] = [] then some zs else none) := by rw [HOO.out, hsd, hdn, parseF_last, HZL.out]
      by_cases ha : sg.getD i [] = []
      · have HN : Hid (o = (i, some zs)) := by
          show _ = _
          rw [hoo, if_pos ha]
        have hpe : Pi.toList = [] := by rw [Lib.toList_data, HPG.out, ha]
        have q1 : (Pi.toList == []) = true := by rw [hpe]; rfl
        have HRO := Lib.hid (rows_ins HW.out HZL.out)
        have HCO := Lib.hid (fun wx (h : Below wr.heap.size wr wx) => check_any va i vc (insF zs) wx (by omega) (HRO.out.below h (Nat.le_refl _)))
        have HKE : Hid (codeF (insF zs) zs.length = codeF (insF zs) i) := by show _ = _; rw [HZL.out]
        obtain ⟨k, hk⟩ : ∃ k, k = codeF (insF zs) i := ⟨_, rfl⟩
        rw [← hk] at HKE HCO
        clear hk hoo hdn hsd ha hpsz hpe
        by_cases hk0 : k = 0
        · have HK0 : Hid (codeF (insF zs) zs.length = 0) := by show _ = _; rw [HKE.out, hk0]
          rw [errV_zero hk0] at HCO
          clear hk0
          go_wp2_with fail
          refine (HCO.out wr (Below.refl _ _)).mono ?_
          rintro e1 w1 ⟨rfl, hb1⟩
          have HW := Lib.hid (own_stays HW.out hb1)
          have HB := Lib.hid (HB.out.trans (hb1.mono HB.out.size))
          clear hb1 HCO HRO cpi
          go_wp2_with fail
          go_ret3
          exact ParP.ok HN.out HK0.out rfl (by rw [HZL.out]; exact HW.out) HB.out
        · rw [errV_some hk0] at HCO
          have HK0 := Lib.hid hk0
          clear hk0
          go_wp2_with fail
          refine (HCO.out wr (Below.refl _ _)).mono ?_
          rintro e1 w1 ⟨rfl, hb1⟩
          have HB := Lib.hid (HB.out.trans (hb1.mono HB.out.size))
          clear hb1 HCO HRO cpi
          go_wp2_with fail
          go_ret3
          exact ParP.wrong HN.out HKE.out HK0.out rfl HB.out
      · have HN : Hid (o = (i, none)) := by
          show _ = _
          rw [hoo, if_neg ha]
        have q1 : (Pi.toList == []) = false := by rw [Lib.toList_data, HPG.out, beq_eq_false_iff_ne]; exact ha
        clear hoo hdn hsd ha hpsz
        go_wp2_with fail
        go_ret3
        exact ParP.bad HN.out rfl HB.out
end Rd
end Go.Proofs.YtfhhnajnanlmgaaGreatDoor
