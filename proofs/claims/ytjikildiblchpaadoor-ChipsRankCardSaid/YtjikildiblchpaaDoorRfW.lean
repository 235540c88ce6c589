/- WALK of the document's answer: edenref6.Ways. -/
import Derived.Test.YtjikildiblchpaaDoorRtB
namespace Go.Proofs.YtjikildiblchpaaDoor
set_option linter.unusedSimpArgs false
set_option linter.unusedVariables false
open Go.RowKit Go.Lib
namespace Rt
open Tld Mem

theorem intsL_map (l : List Nat) : intsL l = (l.map Int.ofNat).map (Value.int .i64) := by
  unfold intsL
  rw [List.map_map]
  rfl

set_option maxHeartbeats 8000000 in
set_option maxRecDepth 1000000 in
theorem rways_any (P : Int) (p : Nat) (ea : Option Addr) (m ec : Nat) (f : Nat → Nat → Int) (k : Nat) (w : World) (hE : Mem.Rows w ea m 3 (fun i j => .int .i64 (f i j))) (hm : m ≤ 40) (hN : ∀ i, i < m → EdgeN p f i) (hp : p ≤ 10) :
    Calls Tryd.prog 52 #[.agg #[.int .i64 P, .slice ea m ec], .int .i64 (k : Int)] w fun e w' => ∃ v, e = .returned v ∧ w'.ownsRow w.heap.size 3 1 v (wayL f k m).length (intsL (wayL f k m)) ∧ Below w.heap.size w w' := by
  obtain ⟨i0, hI0, hz0, hz1, hz2⟩ := info_parts infoIntN
  have HI0 := Lib.hid hI0
  have HZ0 := Lib.hid hz0
  have HZ1 := Lib.hid hz1
  have HZ2 := Lib.hid hz2
  have HER := Lib.hid hE
  have HEN := Lib.hid hN
  clear hE hN hI0 hz0 hz1 hz2
  go_enter Tryd.func52, Tryd.ntmps52
  go_upto_region 1 with fail
  have hR : Row (w.alloc (.cells #[.int .i64 P, .slice ea m ec] 24)) w.heap.size 24 [.int .i64 P, .slice ea m ec] := row_alloc w _ _
  have hB : Below w.heap.size w (w.alloc (.cells #[.int .i64 P, .slice ea m ec] 24)) := (Below.refl _ _).alloc (Nat.le_refl _) _
  have HG := Lib.hid hR
  have HB := Lib.hid hB
  have HO := Lib.hid (own_nil (w.alloc (.cells #[.int .i64 P, .slice ea m ec] 24)) w.heap.size)
  clear hR hB
  generalize w.alloc (.cells #[.int .i64 P, .slice ea m ec] 24) = w1 at *
  go_wp2_with fail
  go_loopw [5, 6] (fun z u wr => ∃ (i : Nat) (ao : Option Addr) (co : Nat), i ≤ m ∧ z = .slice ao (wayL f k i).length co ∧ u = .int .i64 (i : Int) ∧ wr.ownsRow w.heap.size 3 1 (.slice ao (wayL f k i).length co) (wayL f k i).length (intsL (wayL f k i)) ∧ Row wr w.heap.size 24 [.int .i64 P, .slice ea m ec] ∧ Below w.heap.size w wr) (fun _ u _ => m - (intOf u).toNat)
  case atStart => exact ⟨0, none, 0, Nat.zero_le _, rfl, rfl, HO.out, HG.out, HB.out⟩
  case round =>
    clear HG HB HO
    obtain ⟨i, ao, co, him, rfl, rfl, ho, hg, hb⟩ := hrel
    have HO := Lib.hid ho
    have HG := Lib.hid hg
    have HB := Lib.hid hb
    have g1 := hg.cell 1
    dsimp only [List.getElem?_cons_succ, List.getElem?_cons_zero] at g1
    clear hg hb ho
    by_cases hlt : i < m
    · --{ROUND
      obtain ⟨b, off, rfl, hbl, hrest⟩ := HER.out i hlt
      clear hrest
      have l1 := edges_range (fun i hi => by
        obtain ⟨b', o', e, h1, h2⟩ := HER.out i hi
        exact ⟨b', o', e, Nat.lt_of_lt_of_le h1 HB.out.size, fun j hj => by rw [HB.out.cell h1]; exact h2 j hj⟩) hlt (w := wr) (b := b) (off := off)
      have hi2 : (i : Int) < (m : Int) := by omega
      have hN := HEN.out i hlt
      rw [hN.a, hN.b, hN.t] at l1
      have HT0 : Hid (wayT f i 0 k = wayL f k i) := wayT_zero
      have HT1 : Hid (wayT f i (eT f i) k = wayL f k (i + 1)) := wayT_all
      have HTL : Hid (∀ t, t ≤ 100 → (wayT f i t k).length ≤ 5000) := fun t ht => wayT_len HEN.out hlt hm ht
      have HTA : Hid (∀ t, eA f i = k → wayT f i (t + 1) k = wayT f i t k ++ [eB f i]) := fun t e => by rw [← e]; exact wayT_a
      have HTB : Hid (∀ t, eB f i = k → wayT f i (t + 1) k = wayT f i t k ++ [eA f i]) := fun t e => by rw [← e]; exact wayT_b (HEN.out i hlt)
      have HTN : Hid (∀ t, k ≠ eA f i → k ≠ eB f i → wayT f i (t + 1) k = wayT f i t k) := fun t h1 h2 => wayT_no h1 h2
      have hne := hN.ne
      have th := hN.th
      obtain ⟨a, ha⟩ : ∃ a, a = eA f i := ⟨_, rfl⟩
      obtain ⟨c, hc⟩ : ∃ c, c = eB f i := ⟨_, rfl⟩
      obtain ⟨T, ht⟩ : ∃ t, t = eT f i := ⟨_, rfl⟩
      rw [← ha, ← hc, ← ht] at l1
      rw [← ha, ← hc] at hne
      rw [← ha, ← hc] at HTA HTB HTN
      rw [← ht] at th HT1
      clear hN ha hc ht
      rw [← HT0.out] at HO ⊢
      have hrow : Row (wr.alloc (.cells #[.int .i64 (a : Int), .int .i64 (c : Int), .int .i64 (T : Int)] 74)) wr.heap.size 74 [.int .i64 (a : Int), .int .i64 (c : Int), .int .i64 (T : Int)] := row_alloc wr _ _
      have hbn2 : Below wr.heap.size wr (wr.alloc (.cells #[.int .i64 (a : Int), .int .i64 (c : Int), .int .i64 (T : Int)] 74)) := (Below.refl _ _).alloc (Nat.le_refl _) _
      go_upto_region 6 with (refine wpList_load_mid rfl 74 _ rfl b (off + i * 3) rfl _ _ l1 Tryd.underlying74 rfl infoEdge ?_)
      have HGa := Lib.hid (HG.out.keep hbn2 HG.out.lt)
      have HBa := Lib.hid (HB.out.trans (hbn2.mono HB.out.size))
      have HOa := Lib.hid (own_keep HO.out hbn2)
      have HR := Lib.hid hrow
      clear hbn2 hrow l1 g1 HG HB HO
      generalize wr.alloc (.cells #[.int .i64 (a : Int), .int .i64 (c : Int), .int .i64 (T : Int)] 74) = w2 at *
      obtain ⟨be, hbe⟩ : ∃ b, b = wr.heap.size := ⟨_, rfl⟩
      rw [← hbe] at HR ⊢
      clear hbe hlt
      generalize decide ((i : Int) < (m : Int)) = qlt
      go_wp2_with fail
      go_loopw [5, 8] (fun z u wr => ∃ (t : Nat) (ao : Option Addr) (co : Nat), t ≤ T ∧ z = .slice ao (wayT f i t k).length co ∧ u = .int .i64 (t : Int) ∧ wr.ownsRow w.heap.size 3 1 (.slice ao (wayT f i t k).length co) (wayT f i t k).length (intsL (wayT f i t k)) ∧ Row wr be 74 [.int .i64 (a : Int), .int .i64 (c : Int), .int .i64 (T : Int)] ∧ Row wr w.heap.size 24 [.int .i64 P, .slice (some ⟨b, off, none⟩) m ec] ∧ Below w.heap.size w wr) (fun _ u _ => T - (intOf u).toNat)
      case atStart => exact ⟨0, ao, co, Nat.zero_le _, rfl, rfl, HOa.out, HR.out, HGa.out, HBa.out⟩
      case round =>
        clear HGa HBa HOa HR
        obtain ⟨t, ao, co, htT, rfl, rfl, ho, hr, hg, hb⟩ := hrel
        have HO := Lib.hid ho
        have HG := Lib.hid hg
        have HB := Lib.hid hb
        have HR := Lib.hid hr
        clear ho hg hb hr
        have e0 := HR.out.cell 0
        have e1 := HR.out.cell 1
        have e2 := HR.out.cell 2
        dsimp only [List.getElem?_cons_succ, List.getElem?_cons_zero] at e0 e1 e2
        by_cases hlt : t < T
        · have ht2 : (t : Int) < (T : Int) := by omega
          have hl5 := HTL.out t (by omega)
          by_cases h1 : a = k
          · have q1 : ((a : Int) == (k : Int)) = true := by rw [h1]; exact beq_self_eq_true _
            have q2 : ((c : Int) == (k : Int)) = false := by rw [beq_eq_false_iff_ne]; omega
            have HL2 := Lib.hid (HTA.out t h1)
            clear h1
            generalize hl : wayT f i t k = L at *
            have hnew := row_alloc wr 3 [.int .i64 (c : Int)]
            have hbn : Below wr.heap.size wr (wr.alloc (.cells [.int .i64 (c : Int)].toArray 3)) := (Below.refl _ _).alloc (Nat.le_refl _) _
            have HOa := Lib.hid (own_keep HO.out hbn)
            have HRa := Lib.hid (HR.out.keep hbn HR.out.lt)
            have HGa := Lib.hid (HG.out.keep hbn HG.out.lt)
            have HBa := Lib.hid (HB.out.trans (hbn.mono HB.out.size))
            have HCEL := Lib.hid (hnew.cell 0)
            have HSZ : Hid (w.heap.size ≤ (wr.alloc (.cells [.int .i64 (c : Int)].toArray 3)).heap.size) := HBa.out.size
            clear hnew hbn HO HR HG HB
            go_upto_region 11 with (at_builtin; refine Ops.wpList_append1 rfl _ _ 25 rfl w.heap.size 3 i0 (.int .i64 0) 8 Tryd.underlying25 HI0.out HZ0.out rfl HZ1.out HZ2.out _ L.length _ rfl HOa.out ⟨wr.heap.size, 0, none⟩ 1 (.int .i64 (c : Int)) rfl HCEL.out rfl ?c1 ?c2 HSZ.out ?_)
            case c1 => unfold maxLen; omega
            case c2 => omega
            intro ao' co' w5 hO3 hg3
            have HB3 := Lib.hid (HBa.out.grown hg3 HSZ.out (own_low HOa.out))
            have HR3 := Lib.hid (row_grown HOa.out hg3 HRa.out (by decide))
            have HG3 := Lib.hid (row_grown HOa.out hg3 HGa.out (by decide))
            rw [← intsL_snoc] at hO3
            have HO3 := Lib.hid hO3
            clear hO3 hg3 HOa HBa HCEL HSZ HRa HGa e0 e1 e2
            have e1 := HR3.out.cell 1
            dsimp only [List.getElem?_cons_succ, List.getElem?_cons_zero] at e1
            go_wp2_with fail
            go_roundw
            case rel => exact ⟨t + 1, ao', co', by omega, by rw [HL2.out, List.length_append]; rfl, by go_num, by rw [HL2.out, List.length_append]; exact HO3.out, HR3.out, HG3.out, HB3.out⟩
            case measure => simp [intOf]; omega
          have q1 : ((a : Int) == (k : Int)) = false := by rw [beq_eq_false_iff_ne]; omega
          by_cases h2 : c = k
          · have q2 : ((c : Int) == (k : Int)) = true := by rw [h2]; exact beq_self_eq_true _
            have HL2 := Lib.hid (HTB.out t h2)
            clear h1 h2
            generalize hl : wayT f i t k = L at *
            have hnew := row_alloc wr 3 [.int .i64 (a : Int)]
            have hbn : Below wr.heap.size wr (wr.alloc (.cells [.int .i64 (a : Int)].toArray 3)) := (Below.refl _ _).alloc (Nat.le_refl _) _
            have HOa := Lib.hid (own_keep HO.out hbn)
            have HRa := Lib.hid (HR.out.keep hbn HR.out.lt)
            have HGa := Lib.hid (HG.out.keep hbn HG.out.lt)
            have HBa := Lib.hid (HB.out.trans (hbn.mono HB.out.size))
            have HCEL := Lib.hid (hnew.cell 0)
            have HSZ : Hid (w.heap.size ≤ (wr.alloc (.cells [.int .i64 (a : Int)].toArray 3)).heap.size) := HBa.out.size
            clear hnew hbn HO HR HG HB
            go_wp2_with (at_builtin; refine Ops.wpList_append1 rfl _ _ 25 rfl w.heap.size 3 i0 (.int .i64 0) 8 Tryd.underlying25 HI0.out HZ0.out rfl HZ1.out HZ2.out _ L.length _ rfl HOa.out ⟨wr.heap.size, 0, none⟩ 1 (.int .i64 (a : Int)) rfl HCEL.out rfl ?c1 ?c2 HSZ.out ?_)
            case c1 => unfold maxLen; omega
            case c2 => omega
            intro ao' co' w5 hO3 hg3
            have HB3 := Lib.hid (HBa.out.grown hg3 HSZ.out (own_low HOa.out))
            have HR3 := Lib.hid (row_grown HOa.out hg3 HRa.out (by decide))
            have HG3 := Lib.hid (row_grown HOa.out hg3 HGa.out (by decide))
            rw [← intsL_snoc] at hO3
            have HO3 := Lib.hid hO3
            clear hO3 hg3 HOa HBa HCEL HSZ HRa HGa e0 e1 e2
            go_wp2_with fail
            go_roundw
            case rel => exact ⟨t + 1, ao', co', by omega, by rw [HL2.out, List.length_append]; rfl, by go_num, by rw [HL2.out, List.length_append]; exact HO3.out, HR3.out, HG3.out, HB3.out⟩
            case measure => simp [intOf]; omega
          · have q2 : ((c : Int) == (k : Int)) = false := by rw [beq_eq_false_iff_ne]; omega
            have HL2 := Lib.hid (HTN.out t (Ne.symm h1) (Ne.symm h2))
            clear h1 h2
            go_wp2_with fail
            go_roundw
            case rel => exact ⟨t + 1, ao, co, by omega, by rw [HL2.out], by go_num, by rw [HL2.out]; exact HO.out, HR.out, HG.out, HB.out⟩
            case measure => simp [intOf]; omega
        · obtain rfl : t = T := by omega
          have ht2 : ¬ (t : Int) < (t : Int) := by omega
          rw [HT1.out] at HO
          go_wp2_with fail
          go_roundw
          case rel => exact ⟨i + 1, ao, co, by omega, by rw [← HT1.out], by go_num, HO.out, HG.out, HB.out⟩
          case measure => simp [intOf]; omega
      --}
    · --{END
      obtain rfl : i = m := by omega
      go_wp2_with fail
      go_ret
      exact ⟨_, rfl, HO.out, HB.out⟩
      --}
end Rt
end Go.Proofs.YtjikildiblchpaaDoor
