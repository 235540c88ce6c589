/- WALK: edenref5.Code: what is wrong with a machine, by the document. -/
import Derived.Test.YtfhhnajnanlmgaaGreatDoorCrA
namespace Go.Proofs.YtfhhnajnanlmgaaGreatDoor
set_option linter.unusedSimpArgs false
set_option linter.unusedVariables false
open Go.RowKit
namespace Cr
open Tld Mem

set_option maxHeartbeats 4000000 in
set_option maxRecDepth 1000000 in
theorem code_any (sa : Option Addr) (m c : Nat) (f : Nat → Nat → Int) (w : World) (hm : m ≤ 9223372036854775807) (hF : Mem.Rows w sa m 4 (fun i j => .int .i64 (f i j))) : Calls Tryz.prog 20 #[.slice sa m c] w fun e w' => e = .returned (.int .i64 (codeF f m)) ∧ Below w.heap.size w w' := by
  have HF := Lib.hid hF
  clear hF
  by_cases h0 : m < 1
  · have e0 := @decide_eq_true ((m : Int) < 1) _ (by omega)
    have e0' := @decide_eq_true (m < 1) _ h0
    have e0'' := @decide_eq_true (m = 0) _ (by omega)
    have HE := Lib.hid (codeF_full (f := f) (m := m) (.inl h0))
    clear h0
    go_enter Tryz.func20, Tryz.ntmps20
    go_wp2_with fail
    go_ret
    exact ⟨by rw [HE.out]; rfl, Below.refl _ _⟩
  have e0 := @decide_eq_false ((m : Int) < 1) _ (by omega)
  have e0' := @decide_eq_false (m < 1) _ h0
  have e0'' := @decide_eq_false (m = 0) _ (by omega)
  by_cases h12 : 12 < m
  · have HE := Lib.hid (codeF_full (f := f) (m := m) (.inr h12))
    have e1 := @decide_eq_true ((12 : Int) < (m : Int)) _ (by omega)
    clear h0
    go_enter Tryz.func20, Tryz.ntmps20
    go_wp2_with fail
    go_ret
    exact ⟨by rw [HE.out]; rfl, Below.refl _ _⟩
  have e1 := @decide_eq_false ((12 : Int) < (m : Int)) _ (by omega)
  have H0 := Lib.hid h0
  clear h0
  go_enter Tryz.func20, Tryz.ntmps20
  go_wp2_with fail
  go_loopw [3] (fun v wr => ∃ i : Nat, i ≤ m ∧ v = .int .i64 i ∧ (∀ k, k < i → okAt f m k) ∧ Below w.heap.size w wr) (fun v _ => m - (RowKit.intOf v).toNat)
  case atStart => exact ⟨0, Nat.zero_le _, rfl, fun k hk => absurd hk (Nat.not_lt_zero _), Below.refl _ _⟩
  case round =>
    clear e0 e0' e0'' e1
    obtain ⟨i, hi, rfl, hok, hb⟩ := hrel
    have HOK := Lib.hid hok
    have HB := Lib.hid hb
    clear hok hb
    by_cases hlt : i < m
    · obtain ⟨b, off, rfl, hbl, hrest⟩ := HF.out i hlt
      clear hrest
      have l1 := ins_range ((HF.out).below HB.out (Nat.le_refl _)) hlt
      have hi2 : (i : Int) < (m : Int) := by omega
      have HI := Lib.hid hlt
      have HBD : Hid (¬ okAt f m i → codeF f m = 1) := fun h => codeF_bad (by have := H0.out; omega) hlt h
      have HOK2 : Hid (okAt f m i → ∀ k, k < i + 1 → okAt f m k) := fun h k hk => by
        by_cases hki : k = i
        · subst hki; exact h
        · exact HOK.out k (by omega)
      have hio : okAt f m i ↔ okI m (f i 0) (f i 1) (f i 2) (f i 3) := Iff.rfl
      obtain ⟨x0, hx0⟩ : ∃ x, x = f i 0 := ⟨_, rfl⟩
      obtain ⟨x1, hx1⟩ : ∃ x, x = f i 1 := ⟨_, rfl⟩
      obtain ⟨x2, hx2⟩ : ∃ x, x = f i 2 := ⟨_, rfl⟩
      obtain ⟨x3, hx3⟩ : ∃ x, x = f i 3 := ⟨_, rfl⟩
      rw [← hx0, ← hx1, ← hx2, ← hx3] at l1 hio
      have HIO := Lib.hid hio
      clear hx0 hx1 hx2 hx3 hio
      have hrow : Row (wr.alloc (.cells #[.int .i64 x0, .int .i64 x1, .int .i64 x2, .int .i64 x3] 34)) wr.heap.size 34 [.int .i64 x0, .int .i64 x1, .int .i64 x2, .int .i64 x3] := row_alloc wr _ _
      have hbn2 : Below wr.heap.size wr (wr.alloc (.cells #[.int .i64 x0, .int .i64 x1, .int .i64 x2, .int .i64 x3] 34)) := (Below.refl _ _).alloc (Nat.le_refl _) _
      have HB := Lib.hid (HB.out.trans (hbn2.mono HB.out.size))
      have HE := Lib.hid hrow
      clear hbn2 hrow
      go_upto_region 7 with (refine wpList_load_mid rfl 34 _ rfl b (off + i * 4) rfl _ _ l1 Tryz.underlying34 rfl infoIns ?_; clear l1)
      obtain ⟨b7, hb7⟩ : ∃ b7, b7 = wr.heap.size := ⟨_, rfl⟩
      rw [← hb7] at HE ⊢
      clear hb7
      have HE : Hid (Row (wr.alloc (.cells #[.int .i64 x0, .int .i64 x1, .int .i64 x2, .int .i64 x3] 34)) b7 34 [.int .i64 x0, .int .i64 x1, .int .i64 x2, .int .i64 x3]) := HE
      generalize wr.alloc (.cells #[.int .i64 x0, .int .i64 x1, .int .i64 x2, .int .i64 x3] 34) = w2 at *
      have c0 := HE.out.cell 0
      have c1 := HE.out.cell 1
      have c2 := HE.out.cell 2
      have c3 := HE.out.cell 3
      dsimp only [List.getElem?_cons_succ, List.getElem?_cons_zero] at c0 c1 c2 c3
      have HBX : Hid (Below w.heap.size w w2) := HB
      by_cases h1 : x0 = 1
      · subst h1
        by_cases p1 : x1 < 0
        · have dp1 := Lib.hid p1
          have ep1 := @decide_eq_true (x1 < 0) _ p1
          clear p1
          have hno : ¬ okAt f m i := fun h => by
            have h2 := HIO.out.1 h
            have gp1 := dp1.out
            unfold okI at h2
            omega
          have HNO := Lib.hid (HBD.out hno)
          clear hno
          go_wp2_with fail
          go_ret
          exact ⟨by rw [HNO.out]; rfl, HBX.out⟩
        · have dp1 := Lib.hid p1
          have ep1 := @decide_eq_false (x1 < 0) _ p1
          clear p1
          by_cases p2 : 3 < x1
          · have dp2 := Lib.hid p2
            have ep2 := @decide_eq_true (3 < x1) _ p2
            clear p2
            have hno : ¬ okAt f m i := fun h => by
              have h2 := HIO.out.1 h
              have gp2 := dp2.out
              unfold okI at h2
              omega
            have HNO := Lib.hid (HBD.out hno)
            clear hno
            go_wp2_with fail
            go_ret
            exact ⟨by rw [HNO.out]; rfl, HBX.out⟩
          · have dp2 := Lib.hid p2
            have ep2 := @decide_eq_false (3 < x1) _ p2
            clear p2
            by_cases p3 : x2 < 0
            · have dp3 := Lib.hid p3
              have ep3 := @decide_eq_true (x2 < 0) _ p3
              clear p3
              have hno : ¬ okAt f m i := fun h => by
                have h2 := HIO.out.1 h
                have gp3 := dp3.out
                unfold okI at h2
                omega
              have HNO := Lib.hid (HBD.out hno)
              clear hno
              go_wp2_with fail
              go_ret
              exact ⟨by rw [HNO.out]; rfl, HBX.out⟩
            · have dp3 := Lib.hid p3
              have ep3 := @decide_eq_false (x2 < 0) _ p3
              clear p3
              by_cases p4 : (m : Int) ≤ x2
              · have dp4 := Lib.hid p4
                have ep4 := @decide_eq_true ((m : Int) ≤ x2) _ p4
                clear p4
                have hno : ¬ okAt f m i := fun h => by
                  have h2 := HIO.out.1 h
                  have gp4 := dp4.out
                  unfold okI at h2
                  omega
                have HNO := Lib.hid (HBD.out hno)
                clear hno
                go_wp2_with fail
                go_ret
                exact ⟨by rw [HNO.out]; rfl, HBX.out⟩
              · have dp4 := Lib.hid p4
                have ep4 := @decide_eq_false ((m : Int) ≤ x2) _ p4
                clear p4
                by_cases p5 : x3 ≠ 0
                · have dp5 := Lib.hid p5
                  have ep5 : (x3 == 0) = false := beq_eq_false_iff_ne.2 p5
                  have ep5' : (x3 != 0) = true := by rw [bne, ep5]; rfl
                  have ep5'' := @decide_eq_false (x3 = 0) _ p5
                  clear p5
                  have hno : ¬ okAt f m i := fun h => by
                    have h2 := HIO.out.1 h
                    have gp5 := dp5.out
                    unfold okI at h2
                    omega
                  have HNO := Lib.hid (HBD.out hno)
                  clear hno
                  go_wp2_with fail
                  go_ret
                  exact ⟨by rw [HNO.out]; rfl, HBX.out⟩
                · have dp5 := Lib.hid p5
                  have qp5 : x3 = 0 := by omega
                  have ep5 : (x3 == 0) = true := beq_iff_eq.2 qp5
                  have ep5' : (x3 != 0) = false := by rw [bne, ep5]; rfl
                  have ep5'' := @decide_eq_true (x3 = 0) _ qp5
                  clear qp5
                  clear p5
                  have hyes : okAt f m i := HIO.out.2 (by
                    have gp1 := dp1.out
                    have gp2 := dp2.out
                    have gp3 := dp3.out
                    have gp4 := dp4.out
                    have gp5 := dp5.out
                    unfold okI
                    omega)
                  have HYES := Lib.hid (HOK2.out hyes)
                  clear hyes
                  go_wp2_with fail
                  go_roundw
                  case rel => exact ⟨i + 1, by omega, by go_num, HYES.out, HBX.out⟩
                  case measure => have := HI.out; simp [RowKit.intOf]; omega
      · have n1 : (x0 == 1) = false := beq_eq_false_iff_ne.2 h1
        by_cases h2 : x0 = 2
        · subst h2
          clear h1 n1
          by_cases p1 : x1 < 0
          · have dp1 := Lib.hid p1
            have ep1 := @decide_eq_true (x1 < 0) _ p1
            clear p1
            have hno : ¬ okAt f m i := fun h => by
              have h2 := HIO.out.1 h
              have gp1 := dp1.out
              unfold okI at h2
              omega
            have HNO := Lib.hid (HBD.out hno)
            clear hno
            go_wp2_with fail
            go_ret
            exact ⟨by rw [HNO.out]; rfl, HBX.out⟩
          · have dp1 := Lib.hid p1
            have ep1 := @decide_eq_false (x1 < 0) _ p1
            clear p1
            by_cases p2 : 3 < x1
            · have dp2 := Lib.hid p2
              have ep2 := @decide_eq_true (3 < x1) _ p2
              clear p2
              have hno : ¬ okAt f m i := fun h => by
                have h2 := HIO.out.1 h
                have gp2 := dp2.out
                unfold okI at h2
                omega
              have HNO := Lib.hid (HBD.out hno)
              clear hno
              go_wp2_with fail
              go_ret
              exact ⟨by rw [HNO.out]; rfl, HBX.out⟩
            · have dp2 := Lib.hid p2
              have ep2 := @decide_eq_false (3 < x1) _ p2
              clear p2
              by_cases p3 : x2 < 0
              · have dp3 := Lib.hid p3
                have ep3 := @decide_eq_true (x2 < 0) _ p3
                clear p3
                have hno : ¬ okAt f m i := fun h => by
                  have h2 := HIO.out.1 h
                  have gp3 := dp3.out
                  unfold okI at h2
                  omega
                have HNO := Lib.hid (HBD.out hno)
                clear hno
                go_wp2_with fail
                go_ret
                exact ⟨by rw [HNO.out]; rfl, HBX.out⟩
              · have dp3 := Lib.hid p3
                have ep3 := @decide_eq_false (x2 < 0) _ p3
                clear p3
                by_cases p4 : (m : Int) ≤ x2
                · have dp4 := Lib.hid p4
                  have ep4 := @decide_eq_true ((m : Int) ≤ x2) _ p4
                  clear p4
                  have hno : ¬ okAt f m i := fun h => by
                    have h2 := HIO.out.1 h
                    have gp4 := dp4.out
                    unfold okI at h2
                    omega
                  have HNO := Lib.hid (HBD.out hno)
                  clear hno
                  go_wp2_with fail
                  go_ret
                  exact ⟨by rw [HNO.out]; rfl, HBX.out⟩
                · have dp4 := Lib.hid p4
                  have ep4 := @decide_eq_false ((m : Int) ≤ x2) _ p4
                  clear p4
                  by_cases p5 : x3 < 0
                  · have dp5 := Lib.hid p5
                    have ep5 := @decide_eq_true (x3 < 0) _ p5
                    clear p5
                    have hno : ¬ okAt f m i := fun h => by
                      have h2 := HIO.out.1 h
                      have gp5 := dp5.out
                      unfold okI at h2
                      omega
                    have HNO := Lib.hid (HBD.out hno)
                    clear hno
                    go_wp2_with fail
                    go_ret
                    exact ⟨by rw [HNO.out]; rfl, HBX.out⟩
                  · have dp5 := Lib.hid p5
                    have ep5 := @decide_eq_false (x3 < 0) _ p5
                    clear p5
                    by_cases p6 : (m : Int) ≤ x3
                    · have dp6 := Lib.hid p6
                      have ep6 := @decide_eq_true ((m : Int) ≤ x3) _ p6
                      clear p6
                      have hno : ¬ okAt f m i := fun h => by
                        have h2 := HIO.out.1 h
                        have gp6 := dp6.out
                        unfold okI at h2
                        omega
                      have HNO := Lib.hid (HBD.out hno)
                      clear hno
                      go_wp2_with fail
                      go_ret
                      exact ⟨by rw [HNO.out]; rfl, HBX.out⟩
                    · have dp6 := Lib.hid p6
                      have ep6 := @decide_eq_false ((m : Int) ≤ x3) _ p6
                      clear p6
                      have hyes : okAt f m i := HIO.out.2 (by
                        have gp1 := dp1.out
                        have gp2 := dp2.out
                        have gp3 := dp3.out
                        have gp4 := dp4.out
                        have gp5 := dp5.out
                        have gp6 := dp6.out
                        unfold okI
                        omega)
                      have HYES := Lib.hid (HOK2.out hyes)
                      clear hyes
                      go_wp2_with fail
                      go_roundw
                      case rel => exact ⟨i + 1, by omega, by go_num, HYES.out, HBX.out⟩
                      case measure => have := HI.out; simp [RowKit.intOf]; omega
        · have n2 : (x0 == 2) = false := beq_eq_false_iff_ne.2 h2
          by_cases h3 : x0 = 3
          · subst h3
            clear h1 h2 n1 n2
            by_cases p1 : x1 ≠ 0
            · have dp1 := Lib.hid p1
              have ep1 : (x1 == 0) = false := beq_eq_false_iff_ne.2 p1
              have ep1' : (x1 != 0) = true := by rw [bne, ep1]; rfl
              have ep1'' := @decide_eq_false (x1 = 0) _ p1
              clear p1
              have hno : ¬ okAt f m i := fun h => by
                have h2 := HIO.out.1 h
                have gp1 := dp1.out
                unfold okI at h2
                omega
              have HNO := Lib.hid (HBD.out hno)
              clear hno
              go_wp2_with fail
              go_ret
              exact ⟨by rw [HNO.out]; rfl, HBX.out⟩
            · have dp1 := Lib.hid p1
              have qp1 : x1 = 0 := by omega
              have ep1 : (x1 == 0) = true := beq_iff_eq.2 qp1
              have ep1' : (x1 != 0) = false := by rw [bne, ep1]; rfl
              have ep1'' := @decide_eq_true (x1 = 0) _ qp1
              clear qp1
              clear p1
              by_cases p2 : x2 ≠ 0
              · have dp2 := Lib.hid p2
                have ep2 : (x2 == 0) = false := beq_eq_false_iff_ne.2 p2
                have ep2' : (x2 != 0) = true := by rw [bne, ep2]; rfl
                have ep2'' := @decide_eq_false (x2 = 0) _ p2
                clear p2
                have hno : ¬ okAt f m i := fun h => by
                  have h2 := HIO.out.1 h
                  have gp2 := dp2.out
                  unfold okI at h2
                  omega
                have HNO := Lib.hid (HBD.out hno)
                clear hno
                go_wp2_with fail
                go_ret
                exact ⟨by rw [HNO.out]; rfl, HBX.out⟩
              · have dp2 := Lib.hid p2
                have qp2 : x2 = 0 := by omega
                have ep2 : (x2 == 0) = true := beq_iff_eq.2 qp2
                have ep2' : (x2 != 0) = false := by rw [bne, ep2]; rfl
                have ep2'' := @decide_eq_true (x2 = 0) _ qp2
                clear qp2
                clear p2
                by_cases p3 : x3 ≠ 0
                · have dp3 := Lib.hid p3
                  have ep3 : (x3 == 0) = false := beq_eq_false_iff_ne.2 p3
                  have ep3' : (x3 != 0) = true := by rw [bne, ep3]; rfl
                  have ep3'' := @decide_eq_false (x3 = 0) _ p3
                  clear p3
                  have hno : ¬ okAt f m i := fun h => by
                    have h2 := HIO.out.1 h
                    have gp3 := dp3.out
                    unfold okI at h2
                    omega
                  have HNO := Lib.hid (HBD.out hno)
                  clear hno
                  go_wp2_with fail
                  go_ret
                  exact ⟨by rw [HNO.out]; rfl, HBX.out⟩
                · have dp3 := Lib.hid p3
                  have qp3 : x3 = 0 := by omega
                  have ep3 : (x3 == 0) = true := beq_iff_eq.2 qp3
                  have ep3' : (x3 != 0) = false := by rw [bne, ep3]; rfl
                  have ep3'' := @decide_eq_true (x3 = 0) _ qp3
                  clear qp3
                  clear p3
                  have hyes : okAt f m i := HIO.out.2 (by
                    have gp1 := dp1.out
                    have gp2 := dp2.out
                    have gp3 := dp3.out
                    unfold okI
                    omega)
                  have HYES := Lib.hid (HOK2.out hyes)
                  clear hyes
                  go_wp2_with fail
                  go_roundw
                  case rel => exact ⟨i + 1, by omega, by go_num, HYES.out, HBX.out⟩
                  case measure => have := HI.out; simp [RowKit.intOf]; omega
          · have n3 : (x0 == 3) = false := beq_eq_false_iff_ne.2 h3
            have d1 := Lib.hid h1
            have d2 := Lib.hid h2
            have d3 := Lib.hid h3
            clear h1 h2 h3
            have hno : ¬ okAt f m i := fun h => by
              have h2 := HIO.out.1 h
              have g1 := d1.out
              have g2 := d2.out
              have g3 := d3.out
              unfold okI at h2
              omega
            have HNO := Lib.hid (HBD.out hno)
            clear hno
            go_wp2_with fail
            go_ret
            exact ⟨by rw [HNO.out]; rfl, HBX.out⟩
    · have hlt2 : ¬ (i : Int) < (m : Int) := by omega
      have HE := Lib.hid (codeF_ok (f := f) (m := m) ⟨by have := H0.out; omega, by omega, fun k hk => HOK.out k (by omega)⟩)
      go_wp2_with fail
      go_ret
      exact ⟨by rw [HE.out]; rfl, HB.out⟩
    end Cr
    end Go.Proofs.YtfhhnajnanlmgaaGreatDoor
