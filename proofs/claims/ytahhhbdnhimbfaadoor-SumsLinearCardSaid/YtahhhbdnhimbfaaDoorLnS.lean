/- WALK: line.step; line.check, Check, Step, Apply, Run. -/
import Derived.Test.YtahhhbdnhimbfaaDoorLnW
import Derived.Deep.RegionWith
namespace Go.Proofs.YtahhhbdnhimbfaaDoor
set_option linter.unusedSimpArgs false
set_option linter.unusedVariables false
open Go.RowKit
namespace Ln
open Tld Mem

theorem own_slice2 {w : World} {B n : Nat} {v : Value} {zs : List Value} (h : w.ownsRow B 3 1 v n zs) : ∃ a c, v = .slice a n c ∧ n ≤ c := by
  rcases h.2 with ⟨rfl, h0⟩ | ⟨g, cap, cur, rfl, _, _, hc, _⟩
  · exact ⟨none, 0, by rw [h0], by omega⟩
  · exact ⟨_, _, rfl, hc⟩
theorem own_base {w : World} {B B' n : Nat} {v : Value} {zs : List Value} (h : w.ownsRow B 3 1 v n zs) (hB : B' ≤ B) : w.ownsRow B' 3 1 v n zs := by
  refine ⟨h.1, ?_⟩
  rcases h.2 with h0 | ⟨g, cap, cur, rfl, hg, rest⟩
  · exact .inl h0
  · exact .inr ⟨g, cap, cur, rfl, Nat.le_trans hB hg, rest⟩
set_option maxHeartbeats 8000000 in
set_option maxRecDepth 1000000 in
theorem step_any (K B S : Int) (st ra : Nat) (ta : Option Addr) (tn tc : Nat) (tz : List Int) (tu : ByteArray) (wa : Option Addr) (wn wc : Nat) (wz : List Int) (w : World) (hT : Ints.Is w ta tn tz) (h2 : 2 ≤ st) (h4 : st ≤ 4) (hr : ra ≤ 5) (htn : tn = st ^ (2 * ra + 1)) (ht : tn ≤ 4096)
    (htz : ∀ z ∈ tz, 0 ≤ z ∧ z < (st : Int)) (hW : Ints.Is w wa wn wz) (hwz : ∀ z ∈ wz, 0 ≤ z ∧ z < (st : Int)) (hwn : wn ≤ 1000) :
    Calls Tryd.prog 22 #[.agg (rulL K B S st ra ta tn tc tu).toArray, .slice wa wn wc] w fun e w' => (∃ v', e = .returned v' ∧ w'.ownsRow w.heap.size 3 1 v' wn ((stepL (wf tz) st ra wz).map (Value.int .i64))) ∧ Below w.heap.size w w' := by
  obtain ⟨hR, hB⟩ := row_rule w K B S st ra ta tn tc tu
  have hl := hW.len
  have hRL := ringL_len (ra := ra) (wz := wz)
  have HRG : Hid (Calls Tryd.prog 32 #[.slice wa wn wc, .int .i64 ra] (w.alloc (.cells #[.int .i64 K, .int .i64 B, .int .i64 S, .int .i64 st, .int .i64 ra, .slice ta tn tc, .string tu] 24)).drew fun e w' => (∃ ao co, e = .returned (.slice ao (ringL ra wz).length co) ∧ (ringL ra wz).length ≤ co ∧ Ints.Is w' ao (ringL ra wz).length (ringL ra wz)) ∧ Below w.heap.size w w' ∧ Row w' w.heap.size 24 (rulL K B S st ra ta tn tc tu)) := by
    refine (ring_any wa wn wc wz ra _ ((hW.keep hB).keep ((Below.refl _ _).drew)) (fun z hz => (hwz z hz).1) (by omega) (by omega)).mono ?_
    rintro e w' ⟨⟨v', rfl, hown⟩, hb⟩
    obtain ⟨ao, co, rfl, hco⟩ := own_slice2 hown
    have hb' := hb
    refine ⟨⟨ao, co, rfl, hco, (own_is hown rfl (by rw [hRL]; unfold maxLen; split <;> omega)).1⟩, ?_, ?_⟩
    · exact (hB.drew).trans (hb.mono (by simp))
    · exact (hR.drew).keep hb (hR.drew).lt
  have HAP : Hid (∀ (w2 : World) (ao : Option Addr) (co : Nat), Below w.heap.size w w2 → (ringL ra wz).length ≤ co → Ints.Is w2 ao (ringL ra wz).length (ringL ra wz) → Calls Tryd.prog 31 #[.agg #[.int .i64 K, .int .i64 B, .int .i64 S, .int .i64 st, .int .i64 ra, .slice ta tn tc, .string tu], .slice ao (ringL ra wz).length co] w2 fun e w' => (∃ v', e = .returned v' ∧ w'.ownsRow w.heap.size 3 1 v' wn ((stepL (wf tz) st ra wz).map (Value.int .i64))) ∧ Below w.heap.size w w') := fun w2 ao co hb hco hI => by
    refine (apply_any K B S st ra ta tn tc tz tu ao (ringL ra wz).length co (ringL ra wz) w2 (hT.keep hb) h2 h4 hr htn ht htz hI hco (ringL_mem (by omega) hwz) (by rw [hRL]; split <;> omega)).mono ?_
    rintro e w' ⟨⟨v', rfl, hown⟩, hb2⟩
    rw [ring_step, show (ringL ra wz).length - 2 * ra = wn from by rw [hRL]; split <;> omega] at hown
    refine ⟨⟨v', rfl, own_base hown hb.size⟩, hb.trans (hb2.mono hb.size)⟩
  clear hT hW htn htz hwz hR hB hl hRL
  generalize (ringL ra wz).length = L at *
  unfold rulL
  go_enter Tryd.func22, Tryd.ntmps22
  go_wp2_with fail
  go_region_with (first
    | (go_at_call 32
       refine HRG.out.mono ?_
       rintro e1 w2 ⟨⟨ao, co, rfl, hco, hI⟩, hb2, hr2⟩
       have f0 := hr2.cell 0
       have f1 := hr2.cell 1
       have f2 := hr2.cell 2
       have f3 := hr2.cell 3
       have f4 := hr2.cell 4
       have f5 := hr2.cell 5
       have f6 := hr2.cell 6
       unfold rulL at f0 f1 f2 f3 f4 f5 f6
       dsimp only [List.getElem?_cons_succ, List.getElem?_cons_zero] at f0 f1 f2 f3 f4 f5 f6)
    | (go_at_call 31
       refine (HAP.out _ _ _ hb2 hco hI).mono ?_
       rintro e2 w3 ⟨⟨v', rfl, hown⟩, hb3⟩))
  all_goals
    go_wp2_with fail
    go_ret
    exact ⟨⟨_, rfl, hown⟩, hb3⟩
set_option maxHeartbeats 8000000 in
set_option maxRecDepth 1000000 in
theorem check_any (K B S st ra : Int) (ta : Option Addr) (tn tc : Nat) (tz : List Int) (tu : ByteArray) (w : World) (hT : Ints.Is w ta tn tz) (hu : tu.size ≤ 9223372036854775807) :
    Calls Tryd.prog 28 #[.agg (rulL K B S st ra ta tn tc tu).toArray] w fun e w' => e = .returned (errV (lfault K B S st ra tz tu)) ∧ Below w.heap.size w w' := by
  obtain ⟨hR, hB⟩ := row_rule w K B S st ra ta tn tc tu
  have HR := Lib.hid hR
  have HB := Lib.hid hB
  by_cases hK : K = 2
  · subst hK
    have HC := Lib.hid (rcheck_line B S st ra ta tn tc tz tu _ (hT.keep hB) hu)
    have HL : Hid (lfault 2 B S st ra tz tu = 0 ∨ lfault 2 B S st ra tz tu = 1) := by
      classical
      by_cases h : Ok 2 B S st ra tz tu
      · exact .inl (lfault_ok h)
      · exact .inr (lfault_no h)
    clear hR hB hT
    generalize lfault 2 B S st ra tz tu = f at *
    unfold rulL at HC ⊢
    go_enter Tryd.func28, Tryd.ntmps28
    go_wp2_with fail
    refine HC.out.mono ?_
    rintro e1 w1 ⟨rfl, hb1⟩
    have HR1 := Lib.hid (HR.out.keep hb1 HR.out.lt)
    have HB1 := Lib.hid (HB.out.trans (hb1.mono HB.out.size))
    have f0 := HR1.out.cell 0
    unfold rulL at f0
    dsimp only [List.getElem?_cons_succ, List.getElem?_cons_zero] at f0
    clear hb1
    rcases HL.out with rfl | rfl
    · rw [errV_zero rfl]
      go_wp2_with fail
      go_ret
      exact ⟨rfl, HB1.out⟩
    · rw [errV_some (by decide)]
      go_wp2_with fail
      go_ret
      exact ⟨rfl, HB1.out⟩
  · have HC := Lib.hid (rcheck_other K B S st ra ta tn tc tz tu _ (hT.keep hB) hu hK)
    have HF : Hid (lfault K B S st ra tz tu = 1) := lfault_no fun h => hK h.k
    have hk2 : (K != 2) = true := by rw [bne_iff_ne]; exact hK
    clear hR hB hT
    unfold rulL at HC ⊢
    go_enter Tryd.func28, Tryd.ntmps28
    go_wp2_with fail
    refine HC.out.mono ?_
    rintro e1 w1 ⟨⟨c, rfl, hc⟩, hb1⟩
    have HR1 := Lib.hid (HR.out.keep hb1 HR.out.lt)
    have HB1 := Lib.hid (HB.out.trans (hb1.mono HB.out.size))
    have f0 := HR1.out.cell 0
    unfold rulL at f0
    dsimp only [List.getElem?_cons_succ, List.getElem?_cons_zero] at f0
    clear hb1
    rcases hc with rfl | rfl
    · rw [errV_zero rfl]
      go_wp2_with fail
      go_ret
      exact ⟨congrArg Ending.returned (errV_mk HF.out (by decide)), HB1.out⟩
    · rw [errV_some (by decide)]
      go_wp2_with fail
      go_ret
      exact ⟨congrArg Ending.returned (errV_mk HF.out (by decide)), HB1.out⟩
set_option maxHeartbeats 8000000 in
set_option maxRecDepth 1000000 in
theorem wcheck_any (K B S st ra : Int) (ta : Option Addr) (tn tc : Nat) (tz : List Int) (tu : ByteArray) (wa : Option Addr) (wn wc : Nat) (wz : List Int) (w : World) (hT : Ints.Is w ta tn tz) (hu : tu.size ≤ 9223372036854775807) (hW : Ints.Is w wa wn wz) :
    Calls Tryd.prog 18 #[.agg (rulL K B S st ra ta tn tc tu).toArray, .slice wa wn wc] w fun e w' => e = .returned (errV (wfault K B S st ra tz tu wz)) ∧ Below w.heap.size w w' := by
  obtain ⟨hR, hB⟩ := row_rule w K B S st ra ta tn tc tu
  have HR := Lib.hid hR
  have HB := Lib.hid hB
  have HC := Lib.hid (check_any K B S st ra ta tn tc tz tu _ (hT.keep hB) hu)
  have hle := hW.le
  unfold maxLen at hle
  have HLC := Lib.hid (fun (w2 : World) (h2 : Below w.heap.size w w2) (b : Nat) (hw : w2.cell? ⟨b, 3, none⟩ = some (.int .i64 st)) => lcontains_any wa wn wc wz b st w2 hW.len (by omega) (hW.keep h2).cells hw)
  have HWL := Lib.hid hW.len
  classical
  by_cases ho : Ok K B S st ra tz tu
  · rw [lfault_ok ho, errV_zero rfl] at HC
    by_cases hn : 1000 < wn
    · have HF : Hid (wfault K B S st ra tz tu wz = 4) := by
        show wfault K B S st ra tz tu wz = 4
        rw [wfault_yes ho, if_pos (by rw [HWL.out]; exact hn)]
      clear hR hB hT hW ho
      unfold rulL at HC ⊢
      go_enter Tryd.func18, Tryd.ntmps18
      go_wp2_with fail
      refine HC.out.mono ?_
      rintro e1 w1 ⟨rfl, hb1⟩
      have HB1 := Lib.hid (HB.out.trans (hb1.mono HB.out.size))
      go_wp2_with fail
      go_ret
      exact ⟨congrArg Ending.returned (errV_mk HF.out (by decide)), HB1.out⟩
    · have HF : Hid (wfault K B S st ra tz tu wz = if wz.any (offS st) = true then 1 else 0) := by
        show wfault K B S st ra tz tu wz = _
        rw [wfault_yes ho, if_neg (by rw [HWL.out]; exact hn)]; rfl
      generalize wz.any (offS st) = q at *
      clear hR hB hT hW ho
      unfold rulL at HC ⊢
      go_enter Tryd.func18, Tryd.ntmps18
      go_wp2_with fail
      refine HC.out.mono ?_
      rintro e1 w1 ⟨rfl, hb1⟩
      have HR1 := Lib.hid (HR.out.keep hb1 HR.out.lt)
      have HB1 := Lib.hid (HB.out.trans (hb1.mono HB.out.size))
      have f3 := HR1.out.cell 3
      unfold rulL at f3
      dsimp only [List.getElem?_cons_succ, List.getElem?_cons_zero] at f3
      go_wp2_with fail
      refine (HLC.out _ HB1.out _ f3).mono ?_
      rintro e2 w2 ⟨rfl, rfl⟩
      cases q
      · go_wp2_with fail
        go_ret
        exact ⟨congrArg Ending.returned (errV_nil (by rw [HF.out]; rfl)), HB1.out⟩
      · go_wp2_with fail
        go_ret
        exact ⟨congrArg Ending.returned (errV_mk (by rw [HF.out]; rfl) (by decide)), HB1.out⟩
  · rw [lfault_no ho, errV_some (by decide)] at HC
    have HF : Hid (wfault K B S st ra tz tu wz = 1) := wfault_no ho
    clear hR hB hT hW ho
    unfold rulL at HC ⊢
    go_enter Tryd.func18, Tryd.ntmps18
    go_wp2_with fail
    refine HC.out.mono ?_
    rintro e1 w1 ⟨rfl, hb1⟩
    have HB1 := Lib.hid (HB.out.trans (hb1.mono HB.out.size))
    go_wp2_with fail
    go_ret
    exact ⟨congrArg Ending.returned (errV_mk HF.out (by decide)), HB1.out⟩
end Ln
end Go.Proofs.YtahhhbdnhimbfaaDoor
