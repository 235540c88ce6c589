/- THE LAW CounterReads: its walk, out of its callees' contracts. -/
import Derived.Test.YtfhhnajnanlmgaaGreatDoorRdC
import Derived.Test.YtfhhnajnanlmgaaGreatDoorRdR
import Derived.Test.YtfhhnajnanlmgaaGreatDoorTold
namespace Go.Proofs.YtfhhnajnanlmgaaGreatDoor
set_option linter.unusedSimpArgs false
set_option linter.unusedVariables false
open Go.RowKit
namespace Rd
open Tld Mem Cr

/-- What both hand back: the error, how many lines, the lines, the place. -/
noncomputable def outK (p : Nat × Option (List In)) : Int := match p.2 with
  | none => 2
  | some zs => codeF (insF zs) zs.length
noncomputable def outN (p : Nat × Option (List In)) : Nat := match p.2 with
  | none => 0
  | some zs => if codeF (insF zs) zs.length = 0 then zs.length else 0
noncomputable def outAt (p : Nat × Option (List In)) : Nat := match p.2 with
  | none => p.1
  | some zs => if codeF (insF zs) zs.length = 0 then 0 else p.1
def outF (p : Nat × Option (List In)) (i j : Nat) : Int := match p.2 with
  | none => 0
  | some zs => insF zs i j
theorem outK_range (p : Nat × Option (List In)) : 0 ≤ outK p ∧ outK p ≤ 4 := by
  unfold outK
  split
  · omega
  · exact codeF_range _ _
theorem outN_le {p : Nat × Option (List In)} : outN p ≤ 12 := by
  unfold outN
  split
  · omega
  · split
    · rename_i h
      exact (codeF_zero h).2.1
    · omega
theorem rows_none {w : World} {F : Nat → Nat → Value} : Mem.Rows w none 0 4 F := fun i hi => absurd hi (Nat.not_lt_zero _)
theorem ParP.out {w w' : World} {p : Nat × Option (List In)} {e : Ending} (h : ParP w p e w') :
    (∃ a c, e = .returned (.tuple #[.slice a (outN p) c, .int .i64 (outAt p : Nat), errV (outK p)]) ∧ Mem.Rows w' a (outN p) 4 (fun i j => .int .i64 (outF p i j))) ∧ Below w.heap.size w w' := by
  obtain ⟨n, o⟩ := p
  cases o with
  | none => exact ⟨⟨none, 0, h.1, rows_none⟩, h.2⟩
  | some zs =>
    obtain ⟨⟨h1, h2⟩, hb⟩ := h
    by_cases hk : codeF (insF zs) zs.length = 0
    · obtain ⟨v, rfl, how⟩ := h1 hk
      obtain ⟨a, c, rfl⟩ := own_slice how
      have hr := rows_ins how rfl
      refine ⟨⟨a, c, ?_, ?_⟩, hb⟩
      · unfold outN outAt outK
        dsimp only
        rw [if_pos hk, if_pos hk, errV_zero hk]
        rfl
      · unfold outN outF
        dsimp only
        rw [if_pos hk]
        exact hr
    · refine ⟨⟨none, 0, ?_, ?_⟩, hb⟩
      · unfold outN outAt outK
        dsimp only
        rw [if_neg hk, if_neg hk, errV_some hk]
        exact h2 hk
      · unfold outN outF
        dsimp only
        rw [if_neg hk]
        exact rows_none
theorem RefP.out {w w' : World} {p : Nat × Option (List In)} {e : Ending} (h : RefP w p e w') :
    (∃ a c, e = .returned (.tuple #[.slice a (outN p) c, .int .i64 (outAt p : Nat), .int .i64 (outK p)]) ∧ Mem.Rows w' a (outN p) 4 (fun i j => .int .i64 (outF p i j))) ∧ Below w.heap.size w w' := by
  obtain ⟨n, o⟩ := p
  cases o with
  | none => exact ⟨⟨none, 0, h.1, rows_none⟩, h.2⟩
  | some zs =>
    obtain ⟨⟨h1, h2⟩, hb⟩ := h
    by_cases hk : codeF (insF zs) zs.length = 0
    · obtain ⟨v, rfl, how⟩ := h1 hk
      obtain ⟨a, c, rfl⟩ := own_slice how
      have hr := rows_ins how rfl
      refine ⟨⟨a, c, ?_, ?_⟩, hb⟩
      · unfold outN outAt outK
        dsimp only
        rw [if_pos hk, if_pos hk, hk]
        rfl
      · unfold outN outF
        dsimp only
        rw [if_pos hk]
        exact hr
    · refine ⟨⟨none, 0, ?_, ?_⟩, hb⟩
      · unfold outN outAt outK
        dsimp only
        rw [if_neg hk, if_neg hk]
        exact h2 hk
      · unfold outN outF
        dsimp only
        rw [if_neg hk]
        exact rows_none

set_option maxHeartbeats 4000000 in
set_option maxRecDepth 1000000 in
theorem counterReads_any (s : ByteArray) (w : World) (hs : s.size ≤ 1048576) (hm : ∃ m, w.cell? ⟨4, 0, none⟩ = some (.int .i64 m)) (hL : Tld.Laid w) :
    Calls Tryz.prog 3 #[.string s] w fun e w' => e = .returned (.bool true) ∧ Below w.heap.size w w' := by
  have HP := Lib.hid (Parse_any s w hs hm)
  have HR := Lib.hid (fun wx => Parse_ref s wx hs)
  generalize parseF (segc 10 s.data.toList) [] = p at *
  have HK := Lib.hid (outK_range p)
  have HN := Lib.hid (outN_le (p := p))
  have HL := Lib.hid hL
  clear hL hm
  go_enter Tryz.func3, Tryz.ntmps3
  go_wp2_with fail
  refine HP.out.mono ?_
  intro e1 w1 h1
  obtain ⟨⟨a, c, rfl, hr1⟩, hb1⟩ := h1.out
  have HR1 := Lib.hid hr1
  have HB := Lib.hid hb1
  clear hb1 hr1 h1 HP
  go_wp2_with fail
  refine (HR.out w1).mono ?_
  intro e2 w2 h2
  obtain ⟨⟨b, d, rfl, hr2⟩, hb2⟩ := h2.out
  have HR1 := Lib.hid (HR1.out.below hb2 (Nat.le_refl _))
  have HR2 := Lib.hid hr2
  have HB := Lib.hid (HB.out.trans (hb2.mono HB.out.size))
  clear hb2 hr2 h2 HR
  generalize outN p = n at *
  generalize outAt p = t at *
  generalize outK p = k at *
  generalize outF p = F at *
  go_wp2_with fail
  refine (same_any k k w2 (HL.out.keep HB.out) (by have := HK.out; omega) (by have := HK.out; omega)).mono ?_
  rintro e3 w3 ⟨rfl, hb3⟩
  have HR1 := Lib.hid (HR1.out.below hb3 (Nat.le_refl _))
  have HR2 := Lib.hid (HR2.out.below hb3 (Nat.le_refl _))
  have HB := Lib.hid (HB.out.trans (hb3.mono HB.out.size))
  clear hb3
  rw [beq_self_eq_true]
  go_wp2_with fail
  refine (csame_any a b n c d F w3 (by have := HN.out; omega) HR1.out HR2.out).mono ?_
  rintro e4 w4 ⟨rfl, hb4⟩
  have HB := Lib.hid (HB.out.trans (hb4.mono HB.out.size))
  clear hb4
  go_wp2_with fail
  go_ret
  exact ⟨by simp, HB.out⟩
end Rd
end Go.Proofs.YtfhhnajnanlmgaaGreatDoor
