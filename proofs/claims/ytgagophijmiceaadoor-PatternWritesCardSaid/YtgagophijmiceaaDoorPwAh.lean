/- WALK: the document's edenref1.ahead. -/
import Derived.Test.YtgagophijmiceaaDoorPwOm
import Derived.Test.YtgagophijmiceaaDoorPnI
import Derived.Test.YtgagophijmiceaaDoorPwRuns
namespace Go.Proofs.YtgagophijmiceaaDoor
set_option linter.unusedSimpArgs false
set_option linter.unusedVariables false
open Go.RowKit
namespace Pw
open Tld Mem Bl Pn

theorem ordP_H {W1 H1 W2 H2 : Nat} {z1 z2 : List Int} (h : H1 ≠ H2) : decide (ordP W1 H1 z1 W2 H2 z2 < 0) = decide (H1 < H2) := by
  unfold ordP
  by_cases h1 : H1 < H2
  · rw [if_pos h1]; simp [h1]
  · rw [if_neg h1, if_pos (by omega)]; simp [h1]
theorem ordP_W {W1 H W2 : Nat} {z1 z2 : List Int} (h : W1 ≠ W2) : decide (ordP W1 H z1 W2 H z2 < 0) = decide (W1 < W2) := by
  unfold ordP
  rw [if_neg (by omega), if_neg (by omega)]
  by_cases h1 : W1 < W2
  · rw [if_pos h1]; simp [h1]
  · rw [if_neg h1, if_pos (by omega)]; simp [h1]
theorem ordP_L {W H : Nat} {z1 z2 : List Int} : ordP W H z1 W H z2 = lessL z1 z2 := by
  unfold ordP
  rw [if_neg (by omega), if_neg (by omega), if_neg (by omega), if_neg (by omega)]
theorem less_step {x y : Int} {l m : List Int} : lessL (x :: l) (y :: m) = if x = y then lessL l m else if x < y then -1 else 1 := by
  show (if x < y then -1 else if y < x then 1 else lessL l m) = _
  by_cases h : x = y
  · subst h; simp
  · rw [if_neg h]
    by_cases h1 : x < y
    · rw [if_pos h1, if_pos h1]
    · rw [if_neg h1, if_neg h1, if_pos (by omega)]

set_option maxHeartbeats 8000000 in
set_option maxRecDepth 1000000 in
theorem ahead_any (W1 H1 : Nat) (a1 : Option Addr) (n1 c1 : Nat) (z1 : List Int) (W2 H2 : Nat) (a2 : Option Addr) (n2 c2 : Nat) (z2 : List Int) (w : World) (h1 : Ints.Is w a1 n1 z1) (h2 : Ints.Is w a2 n2 z2) (hn1 : n1 = W1 * H1) (hn2 : n2 = W2 * H2) (hb : n1 ≤ 1000000) :
    Calls Tryd.prog 53 #[.agg #[.int .i64 (W1 : Nat), .int .i64 (H1 : Nat), .slice a1 n1 c1], .agg #[.int .i64 (W2 : Nat), .int .i64 (H2 : Nat), .slice a2 n2 c2]] w fun e w' => e = .returned (.bool (decide (ordP W1 H1 z1 W2 H2 z2 < 0))) ∧ Below w.heap.size w w' := by
  have HZ1 := Lib.hid (fun w2 (h : Below w.heap.size w w2) => h1.keep h)
  have HZ2 := Lib.hid (fun w2 (h : Below w.heap.size w w2) => h2.keep h)
  have HN1 := Lib.hid hn1
  have HN2 := Lib.hid hn2
  have HNB := Lib.hid hb
  clear h1 h2 hn1 hn2 hb
  go_enter Tryd.func53, Tryd.ntmps53
  go_upto_region 1 with fail
  obtain ⟨hr2, hr3, hb2⟩ := two_new w 35 35 (boxP W1 H1 a1 n1 c1) (boxP W2 H2 a2 n2 c2)
  have HP : Hid (Row ((w.alloc (.cells #[.int .i64 (W1 : Nat), .int .i64 (H1 : Nat), .slice a1 n1 c1] 35)).alloc (.cells #[.int .i64 (W2 : Nat), .int .i64 (H2 : Nat), .slice a2 n2 c2] 35)) w.heap.size 35 (boxP W1 H1 a1 n1 c1)) := hr2
  have HQ : Hid (Row ((w.alloc (.cells #[.int .i64 (W1 : Nat), .int .i64 (H1 : Nat), .slice a1 n1 c1] 35)).alloc (.cells #[.int .i64 (W2 : Nat), .int .i64 (H2 : Nat), .slice a2 n2 c2] 35)) (w.heap.size + 1) 35 (boxP W2 H2 a2 n2 c2)) := hr3
  have HB : Hid (Below w.heap.size w ((w.alloc (.cells #[.int .i64 (W1 : Nat), .int .i64 (H1 : Nat), .slice a1 n1 c1] 35)).alloc (.cells #[.int .i64 (W2 : Nat), .int .i64 (H2 : Nat), .slice a2 n2 c2] 35))) := hb2
  clear hr2 hr3 hb2
  generalize (w.alloc (.cells #[.int .i64 (W1 : Nat), .int .i64 (H1 : Nat), .slice a1 n1 c1] 35)).alloc (.cells #[.int .i64 (W2 : Nat), .int .i64 (H2 : Nat), .slice a2 n2 c2] 35) = w1 at *
  obtain ⟨pb, hpb⟩ : ∃ pb, pb = w.heap.size := ⟨_, rfl⟩
  rw [← hpb] at HP HQ ⊢
  obtain ⟨qb, hqb⟩ : ∃ qb, qb = pb + 1 := ⟨_, rfl⟩
  rw [← hqb] at HQ ⊢
  clear hpb hqb
  have p0 := HP.out.cell 0
  have p1 := HP.out.cell 1
  have p2 := HP.out.cell 2
  have q0 := HQ.out.cell 0
  have q1 := HQ.out.cell 1
  have q2 := HQ.out.cell 2
  unfold boxP at p0 p1 p2 q0 q1 q2
  dsimp only [List.getElem?_cons_succ, List.getElem?_cons_zero] at p0 p1 p2 q0 q1 q2
  by_cases hH : H1 = H2
  · subst hH
    by_cases hW : W1 = W2
    · subst hW
      have HE : Hid (ordP W1 H1 z1 W1 H1 z2 = lessL z1 z2) := Lib.hid ordP_L
      have HNN : Hid (n1 = n2) := Lib.hid (by rw [HN1.out, HN2.out])
      go_wp2_with fail
      clear p0 p1 p2 q0 q1 q2
      go_loopw [5] (fun v wr => ∃ i k : Nat, v = .int .i64 ((i : Nat) : Int) ∧ i ≤ n1 ∧ lessL (z1.drop i) (z2.drop i) = lessL z1 z2 ∧ wr = World.drewN w1 k) (fun v _ => n1 - (RowKit.intOf v).toNat)
      case atStart => exact ⟨0, 0, rfl, Nat.zero_le _, rfl, rfl⟩
      case round =>
        obtain ⟨i, k, rfl, hi, hl, rfl⟩ := hrel
        have HL := Lib.hid hl
        have hdn : Below w1.heap.size w1 (World.drewN w1 k) := below_dn (Below.refl _ _) k
        have HPk := Lib.hid (HP.out.keep hdn HP.out.lt)
        have HQk := Lib.hid (HQ.out.keep hdn HQ.out.lt)
        have HBk := Lib.hid (HB.out.trans (hdn.mono HB.out.size))
        clear hl hdn
        generalize hwk : World.drewN w1 k = wk at *
        have p2 := HPk.out.cell 2
        have q2 := HQk.out.cell 2
        unfold boxP at p2 q2
        dsimp only [List.getElem?_cons_succ, List.getElem?_cons_zero] at p2 q2
        by_cases hin : i < n1
        · have hii : (i : Int) < (n1 : Int) := by omega
          have hij : (i : Int) < (n2 : Int) := by have := HNN.out; omega
          obtain ⟨b1, o1, e1, _, g1⟩ := (HZ1.out wk HBk.out).cells i hin
          subst e1
          obtain ⟨b2, o2, e2, _, g2⟩ := (HZ2.out wk HBk.out).cells i (by have := HNN.out; omega)
          subst e2
          dsimp only at g1 g2
          obtain ⟨x, hx⟩ : ∃ x, x = z1.getD i 0 := ⟨_, rfl⟩
          obtain ⟨y, hy⟩ : ∃ y, y = z2.getD i 0 := ⟨_, rfl⟩
          rw [← hx] at g1
          rw [← hy] at g2
          have HLN : Hid ((if x = y then lessL (z1.drop (i + 1)) (z2.drop (i + 1)) else if x < y then -1 else 1) = lessL z1 z2) := Lib.hid (by
            have r1 := drop_at (zs := z1) (i := i) (by rw [(HZ1.out wk HBk.out).len]; exact hin)
            have r2 := drop_at (zs := z2) (i := i) (by rw [(HZ2.out wk HBk.out).len]; have := HNN.out; omega)
            rw [← HL.out, r1, r2, less_step, hx, hy])
          have HIN := Lib.hid hin
          have E1 : Hid (wrap64 ((i : Int) + 1) = ((i + 1 : Nat) : Int)) := Lib.hid (wr_nat (by push_cast; rfl) (by have := HNB.out; omega))
          clear hx hy hin hi
          by_cases hxy : x = y
          · subst hxy
            have HLN : Hid (lessL (z1.drop (i + 1)) (z2.drop (i + 1)) = lessL z1 z2) := Lib.hid (by have h := HLN.out; rw [if_pos rfl] at h; exact h)
            go_upto_region 8 with fail
            go_big_quiet (fail)
            go_wp2_with fail
            go_roundw
            case rel => exact ⟨i + 1, _, congrArg (Value.int .i64) E1.out, HIN.out, HLN.out, by rw [← hwk]; exact drewN_add _ _ _⟩
            case measure => exact meas E1.out (by have := HIN.out; omega)
          · have hxyb : (x != y) = true := by rw [bne_iff_ne]; exact hxy
            have HV : Hid (decide (ordP W1 H1 z1 W1 H1 z2 < 0) = decide (x < y)) := Lib.hid (by
              rw [HE.out, ← HLN.out, if_neg hxy]
              by_cases h : x < y
              · rw [if_pos h]; simp [h]
              · rw [if_neg h]; simp [h])
            have hlast : Hid (∀ q : Nat, Below w.heap.size w (World.drewN wk q)) := Lib.hid (fun q => below_dn HBk.out q)
            go_upto_region 8 with fail
            go_big_quiet (fail)
            go_upto_region 9 with fail
            go_big_quiet (fail)
            go_wp2_with fail
            go_ret
            exact ⟨by rw [HV.out]; rfl, by rw [drewN_add]; exact hlast.out _⟩
        · have hii : ¬ (i : Int) < (n1 : Int) := by omega
          have HV : Hid (decide (ordP W1 H1 z1 W1 H1 z2 < 0) = false) := Lib.hid (by
            have hl := HL.out
            rw [List.drop_eq_nil_of_le (show z1.length ≤ i by rw [(HZ1.out wk HBk.out).len]; omega), List.drop_eq_nil_of_le (show z2.length ≤ i by rw [(HZ2.out wk HBk.out).len]; have := HNN.out; omega)] at hl
            rw [HE.out, ← hl]
            rfl)
          clear hin hi
          go_wp2_with fail
          go_ret
          exact ⟨by rw [HV.out]; rfl, HBk.out⟩
    · have HV : Hid (decide (ordP W1 H1 z1 W2 H1 z2 < 0) = decide (W1 < W2)) := Lib.hid (ordP_W hW)
      have hWi : ¬ (W1 : Int) = (W2 : Int) := by omega
      have hWb : ((W1 : Int) != (W2 : Int)) = true := by rw [bne_iff_ne]; exact hWi
      have HD : Hid (decide ((W1 : Int) < (W2 : Int)) = decide (W1 < W2)) := Lib.hid (by by_cases h : W1 < W2 <;> simp [h])
      clear hW
      go_wp2_with fail
      go_ret
      exact ⟨by rw [HV.out]; first | rfl | (rw [← HD.out]; rfl), HB.out⟩
  · have HV : Hid (decide (ordP W1 H1 z1 W2 H2 z2 < 0) = decide (H1 < H2)) := Lib.hid (ordP_H hH)
    have hHi : ¬ (H1 : Int) = (H2 : Int) := by omega
    have hHb : ((H1 : Int) != (H2 : Int)) = true := by rw [bne_iff_ne]; exact hHi
    have HD : Hid (decide ((H1 : Int) < (H2 : Int)) = decide (H1 < H2)) := Lib.hid (by by_cases h : H1 < H2 <;> simp [h])
    clear hH
    go_wp2_with fail
    go_ret
    exact ⟨by rw [HV.out]; first | rfl | (rw [← HD.out]; rfl), HB.out⟩
end Pw
end Go.Proofs.YtgagophijmiceaaDoor
