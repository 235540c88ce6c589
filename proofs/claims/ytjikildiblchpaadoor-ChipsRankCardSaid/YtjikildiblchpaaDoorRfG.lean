/- WALK of the document's answer: edenref6.Degree. -/
import Derived.Test.YtjikildiblchpaaDoorGfP
namespace Go.Proofs.YtjikildiblchpaaDoor
set_option linter.unusedSimpArgs false
set_option linter.unusedVariables false
open Go.RowKit Go.Lib
namespace Rt
open Tld Mem

set_option maxHeartbeats 8000000 in
set_option maxRecDepth 1000000 in
theorem degree_any (P : Int) (p : Nat) (ea : Option Addr) (m ec : Nat) (f : Nat → Nat → Int) (k : Nat) (w : World) (hE : Mem.Rows w ea m 3 (fun i j => .int .i64 (f i j))) (hm : m ≤ 40) (hN : ∀ i, i < m → EdgeN p f i) :
    Calls Tryd.prog 30 #[.agg #[.int .i64 P, .slice ea m ec], .int .i64 (k : Int)] w fun e w' => e = .returned (.int .i64 (deg f k m : Nat)) ∧ Below w.heap.size w w' := by
  have HER := Lib.hid hE
  have HEN := Lib.hid hN
  clear hE hN
  go_enter Tryd.func30, Tryd.ntmps30
  go_upto_region 1 with fail
  have hR : Row (w.alloc (.cells #[.int .i64 P, .slice ea m ec] 24)) w.heap.size 24 [.int .i64 P, .slice ea m ec] := row_alloc w _ _
  have hB : Below w.heap.size w (w.alloc (.cells #[.int .i64 P, .slice ea m ec] 24)) := (Below.refl _ _).alloc (Nat.le_refl _) _
  have HG := Lib.hid hR
  have HB := Lib.hid hB
  clear hR hB
  generalize w.alloc (.cells #[.int .i64 P, .slice ea m ec] 24) = w1 at *
  obtain ⟨bg, hbg⟩ : ∃ bg, bg = w.heap.size := ⟨_, rfl⟩
  rw [← hbg] at HG ⊢
  have hlg : w.heap.size ≤ bg := by omega
  clear hbg
  go_wp2_with fail
  go_loopw [5, 6] (fun z u wr => ∃ i : Nat, i ≤ m ∧ z = .int .i64 (deg f k i : Nat) ∧ u = .int .i64 (i : Int) ∧ Row wr bg 24 [.int .i64 P, .slice ea m ec] ∧ Below w.heap.size w wr) (fun _ u _ => m - (intOf u).toNat)
  case atStart => exact ⟨0, Nat.zero_le _, rfl, rfl, HG.out, HB.out⟩
  case round =>
    clear HG HB
    obtain ⟨i, him, rfl, rfl, hg, hb⟩ := hrel
    have HG := Lib.hid hg
    have HB := Lib.hid hb
    have g1 := hg.cell 1
    dsimp only [List.getElem?_cons_succ, List.getElem?_cons_zero] at g1
    clear hg hb
    by_cases hlt : i < m
    · --{ROUND
      obtain ⟨b, off, rfl, hbl, hrest⟩ := HER.out i hlt
      clear hrest
      have l1 := edges_range (fun i hi => by
        obtain ⟨b', o', e, h1, h2⟩ := HER.out i hi
        exact ⟨b', o', e, Nat.lt_of_lt_of_le h1 HB.out.size, fun j hj => by rw [HB.out.cell h1]; exact h2 j hj⟩) hlt (w := wr) (b := b) (off := off)
      have hi2 : (i : Int) < (m : Int) := by omega
      have hN := HEN.out i hlt
      rw [hN.a, hN.b, hN.t] at l1
      have hd4 : deg f k i ≤ 100 * i := deg_le fun j hj => HEN.out j (by omega)
      have HS := Lib.hid (deg_succ (f := f) (a := k) (m := i))
      obtain ⟨d, hd⟩ : ∃ d, d = deg f k i := ⟨_, rfl⟩
      rw [← hd] at HS hd4 ⊢
      have th := hN.th
      obtain ⟨a, ha⟩ : ∃ a, a = eA f i := ⟨_, rfl⟩
      obtain ⟨c, hc⟩ : ∃ c, c = eB f i := ⟨_, rfl⟩
      obtain ⟨t, ht⟩ : ∃ t, t = eT f i := ⟨_, rfl⟩
      rw [← ha, ← hc, ← ht] at l1 HS
      rw [← ht] at th
      clear hN ha hc hd ht
      have hrow : Row (wr.alloc (.cells #[.int .i64 (a : Int), .int .i64 (c : Int), .int .i64 (t : Int)] 74)) wr.heap.size 74 [.int .i64 (a : Int), .int .i64 (c : Int), .int .i64 (t : Int)] := row_alloc wr _ _
      have hbn2 : Below wr.heap.size wr (wr.alloc (.cells #[.int .i64 (a : Int), .int .i64 (c : Int), .int .i64 (t : Int)] 74)) := (Below.refl _ _).alloc (Nat.le_refl _) _
      go_upto_region 6 with (refine wpList_load_mid rfl 74 _ rfl b (off + i * 3) rfl _ _ l1 Tryd.underlying74 rfl infoEdge ?_)
      have HG := Lib.hid (HG.out.keep hbn2 HG.out.lt)
      have HB := Lib.hid (HB.out.trans (hbn2.mono HB.out.size))
      have e0 := hrow.cell 0
      have e1 := hrow.cell 1
      have e2 := hrow.cell 2
      dsimp only [List.getElem?_cons_succ, List.getElem?_cons_zero] at e0 e1 e2
      clear hbn2 hrow l1
      generalize wr.alloc (.cells #[.int .i64 (a : Int), .int .i64 (c : Int), .int .i64 (t : Int)] 74) = w2 at *
      have hf1 : (-9223372036854775808 : Int) ≤ (d : Int) + (t : Int) := by omega
      have hf2 : (d : Int) + (t : Int) ≤ 9223372036854775807 := by omega
      by_cases h1 : a = k
      · have q1 : ((a : Int) == (k : Int)) = true := by rw [h1]; exact beq_self_eq_true _
        have HS2 : Hid (deg f k (i + 1) = d + t) := by
          show _ = _
          rw [HS.out, if_pos (.inl h1)]
        clear h1
        go_wp2_with fail
        go_roundw
        case rel => exact ⟨i + 1, by omega, by rw [HS2.out]; go_num, by go_num, HG.out, HB.out⟩
        case measure => simp [intOf]; omega
      have q1 : ((a : Int) == (k : Int)) = false := by rw [beq_eq_false_iff_ne]; omega
      by_cases h2 : c = k
      · have q2 : ((c : Int) == (k : Int)) = true := by rw [h2]; exact beq_self_eq_true _
        have HS2 : Hid (deg f k (i + 1) = d + t) := by
          show _ = _
          rw [HS.out, if_pos (.inr h2)]
        clear h2 h1
        go_wp2_with fail
        go_roundw
        case rel => exact ⟨i + 1, by omega, by rw [HS2.out]; go_num, by go_num, HG.out, HB.out⟩
        case measure => simp [intOf]; omega
      · have q2 : ((c : Int) == (k : Int)) = false := by rw [beq_eq_false_iff_ne]; omega
        have HS2 : Hid (deg f k (i + 1) = d) := by
          show _ = _
          rw [HS.out, if_neg (fun h => h.elim h1 h2), Nat.add_zero]
        clear h2 h1
        go_wp2_with fail
        go_roundw
        case rel => exact ⟨i + 1, by omega, by rw [HS2.out], by go_num, HG.out, HB.out⟩
        case measure => simp [intOf]; omega
      --}
    · --{END
      obtain rfl : i = m := by omega
      go_wp2_with fail
      go_ret
      exact ⟨rfl, HB.out⟩
      --}
end Rt
end Go.Proofs.YtjikildiblchpaaDoor
