/- WALK: slices.Clone at []int, line.Run: n steps of a word (LnN for a seat without edenref2.Run). -/
import Derived.Test.YtahhhbdnhimbfaaDoorLnRs
import Derived.Lib.SliceRun
namespace Go.Proofs.YtahhhbdnhimbfaaDoor
set_option linter.unusedSimpArgs false
set_option linter.unusedVariables false
open Go.RowKit
namespace Ln
open Tld Mem

theorem infoIntC : (Tryd.prog.info? 3).map (fun i => (i.zero, i.size, i.bytes)) = some (some (.int .i64 0), 1, 8) := by kernel_rfl
theorem cells_get {w : World} {a : Option Addr} {n : Nat} {f : Nat → Value} (h : Cells w a n f) {x : Addr} (hx : a = some x) {j : Nat} (hj : j < n) : w.cell? (x.add j) = some (f j) := by
  obtain ⟨b, off, e, _, hc⟩ := h j hj
  rw [hx] at e
  cases e
  rw [Addr.add_mid]
  exact hc
set_option maxHeartbeats 2000000 in
set_option maxRecDepth 100000 in
/-- slices.Clone: the same numbers, in memory of the call's own. -/
theorem clone_any (a : Option Addr) (n c : Nat) (zs : List Int) (w : World) (hz : zs.length = n) (hs : n ≤ 1000000) (hZ : Cells w a n (fun i => .int .i64 (zs.getD i 0))) (hnil : a = none → n = 0) :
    Calls Tryd.prog 23 #[.slice a n c] w fun e w' => ∃ v', e = .returned v' ∧ w'.ownsRow w.heap.size 3 1 v' n (zs.map (Value.int .i64)) ∧ Below w.heap.size w w' := by
  have qT : ∀ (w : World) (a : Option Addr) (n c n' c' : Nat), (binOp .eql 22 (.slice a n c) (.slice none n' c')).run Tryd.prog w = .ok (.bool a.isNone) w := fun w a n c n' c' => Lib.run_eql_slice_nil w _ _ a n c n' c' Tryd.underlying22
  obtain ⟨i0, hI0, hz0, hz1, hz2⟩ := info_parts infoIntC
  have HZ := Lib.hid hZ
  have HL := Lib.hid hz
  clear hZ hz
  cases a with
  | none =>
    obtain rfl := hnil rfl
    obtain rfl : zs = [] := List.eq_nil_of_length_eq_zero HL.out
    go_enter Tryd.func23, Tryd.ntmps23
    go_wp2
    go_ret
    exact ⟨_, rfl, ⟨rfl, .inl ⟨rfl, rfl⟩⟩, Below.refl _ _⟩
  | some x =>
    go_enter Tryd.func23, Tryd.ntmps23
    go_wp2_with (at_builtin; refine wpList_append_own _ rfl _ _ 22 rfl w.heap.size 3 i0 (.int .i64 0) 1 8 Tryd.underlying22 hI0 hz0 hz1 hz2 rfl (by decide) _ _ _ rfl (World.ownsRow_made w #[] 0 (Nat.le_refl _) (Nat.zero_le _) rfl) x n c (zs.map (Value.int .i64)) rfl ?qc1 ?qc2 ?qc3 ?qc4 ?qc5 ?qc6 ?_)
    case qc1 => simp [HL.out]
    case qc2 =>
      intro j u hj
      have hjn : j < n := by
        have := (List.getElem?_eq_some_iff.1 hj).1
        rw [List.length_map, HL.out] at this
        exact this
      have h1 := cells_get HZ.out rfl hjn
      refine Lib.cell?_alloc_some _ ?_
      rw [h1]
      have e : (zs.map (Value.int .i64))[j]? = some (Value.int .i64 (zs.getD j 0)) := by simp [List.getD_eq_getElem?_getD, List.getElem?_eq_getElem (show j < zs.length from by rw [HL.out]; exact hjn)]
      rw [e] at hj
      exact hj
    case qc3 => intro u hu; obtain ⟨x, _, rfl⟩ := List.mem_map.1 hu; rfl
    case qc4 => unfold maxLen; omega
    case qc5 => omega
    case qc6 => simp
    intro v' w1 hown hgrow hnil'
    go_wp2
    go_ret
    refine ⟨v', rfl, by simpa using hown, ?_⟩
    exact ((Below.refl _ w).alloc (Nat.le_refl _) _).grown hgrow (by simp) (by intro k hk; simp [Value.ownBlock] at hk; omega)

theorem runL_mem {t : Nat → Nat} {st R : Nat} {wz : List Int} (ht : ∀ k, t k < st) (h : ∀ z ∈ wz, 0 ≤ z ∧ z < (st : Int)) : ∀ n, ∀ z ∈ runL t st R wz n, 0 ≤ z ∧ z < (st : Int)
  | 0 => h
  | n + 1 => lst_mem fun k => ht _
set_option maxHeartbeats 8000000 in
set_option maxRecDepth 1000000 in
theorem runL_fault (K B S st ra : Int) (ta : Option Addr) (tn tc : Nat) (tz : List Int) (tu : ByteArray) (wa : Option Addr) (wn wc : Nat) (wz : List Int) (n f : Int) (w : World) (hT : Ints.Is w ta tn tz) (hu : tu.size ≤ 9223372036854775807) (hW : Ints.Is w wa wn wz) (hf : wfault K B S st ra tz tu wz = f) (h0 : f ≠ 0) :
    Calls Tryd.prog 10 #[.agg #[.int .i64 K, .int .i64 B, .int .i64 S, .int .i64 st, .int .i64 ra, .slice ta tn tc, .string tu], .slice wa wn wc, .int .i64 n] w fun e w' => e = .returned (.tuple #[.slice none 0 0, .iface 45 (.int .i64 f)]) ∧ Below w.heap.size w w' := by
  obtain ⟨hR, hB⟩ := row_rule w K B S st ra ta tn tc tu
  have HB := Lib.hid hB
  have HC := Lib.hid (wcheck_any K B S st ra ta tn tc tz tu wa wn wc wz _ (hT.keep hB) hu (hW.keep hB))
  rw [hf, errV_some h0] at HC
  clear hR hB hT hW hf
  unfold rulL at HC
  go_enter Tryd.func10, Tryd.ntmps10
  go_wp2_with fail
  refine HC.out.mono ?_
  rintro e1 w1 ⟨rfl, hb1⟩
  have HB1 := Lib.hid (HB.out.trans (hb1.mono HB.out.size))
  clear hb1
  go_wp2_with fail
  go_ret2
  exact ⟨rfl, HB1.out⟩
set_option maxHeartbeats 8000000 in
set_option maxRecDepth 1000000 in
theorem runL_range (K B S st ra : Int) (ta : Option Addr) (tn tc : Nat) (tz : List Int) (tu : ByteArray) (wa : Option Addr) (wn wc : Nat) (wz : List Int) (n : Int) (w : World) (hT : Ints.Is w ta tn tz) (hu : tu.size ≤ 9223372036854775807) (hW : Ints.Is w wa wn wz) (hf : wfault K B S st ra tz tu wz = 0) (hn : n < 0 ∨ 100000 < n) :
    Calls Tryd.prog 10 #[.agg #[.int .i64 K, .int .i64 B, .int .i64 S, .int .i64 st, .int .i64 ra, .slice ta tn tc, .string tu], .slice wa wn wc, .int .i64 n] w fun e w' => e = .returned (.tuple #[.slice none 0 0, .iface 45 (.int .i64 1)]) ∧ Below w.heap.size w w' := by
  obtain ⟨hR, hB⟩ := row_rule w K B S st ra ta tn tc tu
  have HB := Lib.hid hB
  have HC := Lib.hid (wcheck_any K B S st ra ta tn tc tz tu wa wn wc wz _ (hT.keep hB) hu (hW.keep hB))
  rw [hf, errV_zero rfl] at HC
  clear hR hB hT hW hf
  unfold rulL at HC
  by_cases h0 : n < 0
  · have d0 : decide (n < 0) = true := decide_eq_true h0
    go_enter Tryd.func10, Tryd.ntmps10
    go_wp2_with fail
    refine HC.out.mono ?_
    rintro e1 w1 ⟨rfl, hb1⟩
    have HB1 := Lib.hid (HB.out.trans (hb1.mono HB.out.size))
    clear hb1
    go_wp2_with fail
    go_ret2
    exact ⟨rfl, HB1.out⟩
  · have h1 : 100000 < n := by omega
    have d0 : decide (n < 0) = false := decide_eq_false h0
    have d1 : decide (100000 < n) = true := decide_eq_true h1
    go_enter Tryd.func10, Tryd.ntmps10
    go_wp2_with fail
    refine HC.out.mono ?_
    rintro e1 w1 ⟨rfl, hb1⟩
    have HB1 := Lib.hid (HB.out.trans (hb1.mono HB.out.size))
    clear hb1
    go_wp2_with fail
    go_ret2
    exact ⟨rfl, HB1.out⟩
set_option maxHeartbeats 8000000 in
set_option maxRecDepth 1000000 in
theorem runL_ok (K B S : Int) (st ra : Nat) (ta : Option Addr) (tn tc : Nat) (tz : List Int) (tu : ByteArray) (wa : Option Addr) (wn wc : Nat) (wz : List Int) (n : Nat) (w : World) (hT : Ints.Is w ta tn tz) (hu : tu.size ≤ 9223372036854775807) (hW : Ints.Is w wa wn wz) (hwc : wn ≤ wc) (hnil : wa = none → wn = 0) (hf : wfault K B S st ra tz tu wz = 0) (hn : n ≤ 100000) :
    Calls Tryd.prog 10 #[.agg #[.int .i64 K, .int .i64 B, .int .i64 S, .int .i64 st, .int .i64 ra, .slice ta tn tc, .string tu], .slice wa wn wc, .int .i64 n] w fun e w' => (∃ ao co, e = .returned (.tuple #[.slice ao wn co, .nilIface]) ∧ Ints.Is w' ao wn (runL (wf tz) st ra wz n)) ∧ Below w.heap.size w w' := by
  obtain ⟨hR, hB⟩ := row_rule w K B S st ra ta tn tc tu
  have HB := Lib.hid hB
  have HR := Lib.hid hR
  have HC := Lib.hid (wcheck_any K B S st ra ta tn tc tz tu wa wn wc wz _ (hT.keep hB) hu (hW.keep hB))
  rw [hf, errV_zero rfl] at HC
  obtain ⟨ho, hwn, hz⟩ := wfault_zero hf
  obtain ⟨s, r, hs, hr', h2, h4, hr5, htn, htl, htz⟩ := ho.nat hT.len
  obtain rfl : st = s := by omega
  obtain rfl : ra = r := by omega
  have hwl := hW.len
  have hwn1 : wn ≤ 1000 := by omega
  have htlt : ∀ k, wf tz k < st := fun k => wf_lt (by omega) htz k
  have HCL := Lib.hid (fun (w2 : World) (h3 : Below w.heap.size w w2) => clone_any wa wn wc wz w2 hwl (by omega) (hW.keep h3).cells hnil)
  have HST := Lib.hid (fun (w2 : World) (h3 : Below w.heap.size w w2) (ao : Option Addr) (co i : Nat) (hI : Ints.Is w2 ao wn (runL (wf tz) st ra wz i)) => step_any K B S st ra ta tn tc tz tu ao wn co _ w2 (hT.keep h3) h2 h4 hr5 htn htl htz hI (runL_mem htlt hz i) (by omega))
  have HLEN := Lib.hid (fun i => (runL_len (t := wf tz) (st := st) (R := ra) (wz := wz) i).trans hwl)
  clear hR hB hT hW hf ho hz htz htn hs hr' htlt hwl
  unfold rulL at HC HST
  go_enter Tryd.func10, Tryd.ntmps10
  go_wp2_with fail
  refine HC.out.mono ?_
  rintro e1 w1 ⟨rfl, hb1⟩
  have HR1 := Lib.hid (HR.out.keep hb1 HR.out.lt)
  have HB1 := Lib.hid (HB.out.trans (hb1.mono HB.out.size))
  have d0 : decide ((n : Int) < 0) = false := decide_eq_false (by omega)
  have d1 : decide ((100000 : Int) < (n : Int)) = false := decide_eq_false (by omega)
  clear hb1
  go_wp2_with fail
  refine (HCL.out _ HB1.out).mono ?_
  rintro e2 w2 ⟨v2, rfl, hown, hb2⟩
  obtain ⟨ao, co, rfl, hco⟩ := own_slice2 hown
  have hI := own_is hown (by exact HLEN.out 0) (by unfold maxLen; omega)
  have HI := Lib.hid hI.1
  have HR := Lib.hid (HR1.out.keep hb2 HR1.out.lt)
  have HB := Lib.hid (HB1.out.trans (hb2.mono HB1.out.size))
  clear hown hI HR1 HB1 hb2 HC
  obtain ⟨b1, hb1⟩ : ∃ b1, b1 = w.heap.size := ⟨_, rfl⟩
  rw [← hb1] at HR ⊢
  have HBE := Lib.hid hb1
  clear hb1
  go_wp2_with fail
  go_loopw [1, 25] (fun u v wr => ∃ (i : Nat) (ao : Option Addr) (co : Nat), i ≤ n ∧ v = .int .i64 i ∧ u = .slice ao wn co ∧ Ints.Is wr ao wn (runL (wf tz) st ra wz i) ∧ Row wr b1 24 (rulL K B S st ra ta tn tc tu) ∧ Below w.heap.size w wr) (fun _ v _ => n - (intOf v).toNat)
  case atStart => exact ⟨0, ao, co, Nat.zero_le _, rfl, rfl, HI.out, HR.out, HB.out⟩
  case round =>
    clear HI HR HB
    obtain ⟨i, ao, co, hi, rfl, rfl, hI, hR, hbel⟩ := hrel
    have HI := Lib.hid hI
    have HR := Lib.hid hR
    have HB := Lib.hid hbel
    clear hI hR hbel
    by_cases hlt : i < n
    · have l2 := row_range HR.out
      go_wp2_with (refine wpList_load_mid rfl 24 _ rfl b1 0 rfl _ _ l2 Tryd.underlying24 rfl infoRuleR ?_)
      clear l2
      refine (HST.out _ HB.out ao co i HI.out).mono ?_
      rintro e3 w3 ⟨⟨v', rfl, hown⟩, hb3⟩
      obtain ⟨ao3, co3, rfl, hco3⟩ := own_slice2 hown
      have hI3 := own_is hown (by exact HLEN.out (i + 1)) (by unfold maxLen; omega)
      have HI3 := Lib.hid hI3.1
      have HR3 := Lib.hid (HR.out.keep hb3 HR.out.lt)
      have HB3 := Lib.hid (HB.out.trans (hb3.mono HB.out.size))
      clear hown hI3 HI HR HB hb3
      go_wp2_with fail
      go_roundw
      case rel => exact ⟨i + 1, ao3, co3, by omega, by go_num, rfl, HI3.out, HR3.out, HB3.out⟩
      case measure => simp [intOf]; omega
    · have e : i = n := by omega
      subst e
      go_wp2_with fail
      go_ret2
      exact ⟨⟨ao, co, rfl, HI.out⟩, HB.out⟩
end Ln
end Go.Proofs.YtahhhbdnhimbfaaDoor
