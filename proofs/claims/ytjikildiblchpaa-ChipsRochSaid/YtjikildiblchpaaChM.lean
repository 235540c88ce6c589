/- WALK: slices.Max, Contains (truths), Equal, on rows of numbers. -/
import Derived.Test.YtjikildiblchpaaChF
namespace Go.Proofs.Ytjikildiblchpaa
set_option linter.unusedSimpArgs false
set_option linter.unusedVariables false
open Go.RowKit Go.Lib
namespace Ch
open Tld Mem Rt

set_option maxHeartbeats 2000000 in
theorem max_any (b P c : Nat) (d : Nat → Nat) (w : World) (hV : Vec w b P fun k => (d k : Int)) (h0 : 0 < P) (hP : P ≤ 10) (hd : ∀ k, k < P → d k < P) :
    Calls Try.prog 38 #[.slice (some ⟨b, 0, none⟩) P c] w fun e w' => (∃ m : Nat, e = .returned (.int .i64 (m : Int)) ∧ (∀ k, k < P → d k ≤ m) ∧ m < P) ∧ w' = w := by
  have HV := Lib.hid hV
  have HD := Lib.hid hd
  have c0 := hV.cell h0
  have hd0 := hd 0 h0
  have hP1 : ¬ (P : Int) < 1 := by omega
  have hP0 : (0 : Int) < (P : Int) := by omega
  clear hV hd
  obtain ⟨d0, he0⟩ : ∃ x, x = d 0 := ⟨_, rfl⟩
  have HE0 := Lib.hid he0
  rw [← he0] at c0 hd0
  clear he0
  go_enter Try.func38, Try.ntmps38
  go_wp2_with fail
  clear c0
  go_loopw [3, 4] (fun y z wr => ∃ (k m : Nat), 1 ≤ k ∧ k ≤ P ∧ y = .int .i64 (m : Int) ∧ z = .int .i64 (k : Int) ∧ (∀ j, j < k → d j ≤ m) ∧ m < P ∧ wr = w) (fun _ z _ => P - (intOf z).toNat)
  case atStart =>
    have HST : Hid (∀ j, j < 1 → d j ≤ d0) := fun j hj => by
      have : j = 0 := by omega
      rw [this, HE0.out]
      exact Nat.le_refl _
    exact ⟨1, d0, Nat.le_refl _, h0, rfl, rfl, HST.out, hd0, rfl⟩
  case round =>
    obtain ⟨k, m, hk1, hkP, rfl, rfl, hm, hmP, rfl⟩ := hrel
    have HM := Lib.hid hm
    clear hm
    by_cases hk : k < P
    · have hk2 : (k : Int) < (P : Int) := by omega
      have c1 := HV.out.cell hk
      have hdk := HD.out k hk
      have HNX : Hid (∀ n, m ≤ n → d k ≤ n → ∀ j, j < k + 1 → d j ≤ n) := fun n h1 h2 j hj => by
        by_cases e : j = k
        · rw [e]; exact h2
        · have := HM.out j (by omega); omega
      obtain ⟨x, hx⟩ : ∃ x, x = d k := ⟨_, rfl⟩
      rw [← hx] at c1 hdk HNX
      clear hx
      by_cases hlt : m ≤ x
      · have HN2 := Lib.hid (HNX.out x hlt (Nat.le_refl _))
        have e1 : max (m : Int) (x : Int) = (x : Int) := by omega
        go_wp2_with fail
        go_roundw
        case rel => exact ⟨k + 1, x, by omega, by omega, by first | rfl | (congr 1; omega), by go_num, HN2.out, hdk, by trivial⟩
        case measure => simp [intOf]; omega
      · have HN2 := Lib.hid (HNX.out m (Nat.le_refl _) (by omega))
        have e1 : max (m : Int) (x : Int) = (m : Int) := by omega
        go_wp2_with fail
        go_roundw
        case rel => exact ⟨k + 1, m, by omega, by omega, by first | rfl | (congr 1; omega), by go_num, HN2.out, hmP, by trivial⟩
        case measure => simp [intOf]; omega
    · obtain rfl : k = P := by omega
      go_wp2_with fail
      go_ret
      exact ⟨⟨m, rfl, HM.out, hmP⟩, rfl⟩
set_option maxHeartbeats 2000000 in
theorem bindex_any (b P c : Nat) (F : Nat → Bool) (w : World) (hV : VecB w b P F) (hP : P ≤ 10) :
    Calls Try.prog 47 #[.slice (some ⟨b, 0, none⟩) P c, .bool false] w fun e w' => ((∃ k : Nat, k < P ∧ F k = false ∧ e = .returned (.int .i64 (k : Int))) ∨ ((∀ k, k < P → F k = true) ∧ e = .returned (.int .i64 (-1)))) ∧ w' = w := by
  have HV := Lib.hid hV
  clear hV
  go_enter Try.func47, Try.ntmps47
  go_wp2_with fail
  go_loopw [8] (fun z wr => ∃ (k : Nat), k ≤ P ∧ z = .int .i64 (k : Int) ∧ (∀ j, j < k → F j = true) ∧ wr = w) (fun z _ => P - (intOf z).toNat)
  case atStart => exact ⟨0, Nat.zero_le _, rfl, fun j hj => absurd hj (Nat.not_lt_zero _), rfl⟩
  case round =>
    obtain ⟨k, hkP, rfl, hm, rfl⟩ := hrel
    have HM := Lib.hid hm
    clear hm
    by_cases hk : k < P
    · have hk2 : (k : Int) < (P : Int) := by omega
      have c1 := HV.out.cell hk
      obtain ⟨x, hx⟩ : ∃ x, x = F k := ⟨_, rfl⟩
      have HX := Lib.hid hx
      rw [← hx] at c1
      clear hx
      cases x
      · go_wp2_with fail
        go_ret
        exact ⟨.inl ⟨k, hk, HX.out.symm, rfl⟩, rfl⟩
      · have HM2 : Hid (∀ j, j < k + 1 → F j = true) := fun j hj => by
          by_cases e : j = k
          · rw [e]; exact HX.out.symm
          · exact HM.out j (by omega)
        go_wp2_with fail
        go_roundw
        case rel => exact ⟨k + 1, by omega, by go_num, HM2.out, by trivial⟩
        case measure => simp [intOf]; omega
    · obtain rfl : k = P := by omega
      go_wp2_with fail
      go_ret
      exact ⟨.inr ⟨HM.out, rfl⟩, rfl⟩
theorem bcontains_any (b P c : Nat) (F : Nat → Bool) (w : World) (hV : VecB w b P F) (hP : P ≤ 10) :
    Calls Try.prog 39 #[.slice (some ⟨b, 0, none⟩) P c, .bool false] w fun e w' => (((∃ k : Nat, k < P ∧ F k = false) ∧ e = .returned (.bool true)) ∨ ((∀ k, k < P → F k = true) ∧ e = .returned (.bool false))) ∧ w' = w := by
  have HI := Lib.hid (bindex_any b P c F w hV hP)
  clear hV
  go_enter Try.func39, Try.ntmps39
  go_wp2_with fail
  refine HI.out.mono ?_
  rintro e1 w1 ⟨⟨k, hk, hf, rfl⟩ | ⟨hall, rfl⟩, rfl⟩
  · have HF := Lib.hid hf
    clear hf
    go_wp2
    go_ret
    exact ⟨.inl ⟨⟨k, hk, HF.out⟩, rfl⟩, rfl⟩
  · have HF := Lib.hid hall
    clear hall
    go_wp2
    go_ret
    exact ⟨.inr ⟨HF.out, rfl⟩, rfl⟩
set_option maxHeartbeats 2000000 in
theorem equal_any (a b : Option Addr) (n m c d : Nat) (xs ys : List Int) (w : World) (hx : Ints.Is w a n xs) (hy : Ints.Is w b m ys) (hn : n ≤ 10) (hm : m ≤ 10) :
    Calls Try.prog 25 #[.slice a n c, .slice b m d] w fun e w' => e = .returned (.bool (decide (xs = ys))) ∧ Below w.heap.size w w' := by
  have HX := Lib.hid hx
  have HY := Lib.hid hy
  clear hx hy
  go_enter Try.func25, Try.ntmps25
  by_cases hnm : n = m
  · subst hnm
    have b1 : ((n : Int) != (n : Int)) = false := bne_self_eq_false _
    go_wp2_with fail
    go_loopw [13] (fun z wr => ∃ (k : Nat), k ≤ n ∧ z = .int .i64 (k : Int) ∧ Ints.AllEq xs ys k ∧ Below w.heap.size w wr) (fun z _ => n - (intOf z).toNat)
    case atStart => exact ⟨0, Nat.zero_le _, rfl, fun j hj => absurd hj (Nat.not_lt_zero _), Below.refl _ _⟩
    case round =>
      obtain ⟨k, hkn, rfl, he, hb⟩ := hrel
      have HE := Lib.hid he
      have HB := Lib.hid hb
      clear he hb
      by_cases hk : k < n
      · have hk2 : (k : Int) < (n : Int) := by omega
        obtain ⟨bx, ox, rfl, _, hcx⟩ := (HX.out.keep HB.out).cells k hk
        obtain ⟨by', oy, rfl, _, hcy⟩ := (HY.out.keep HB.out).cells k hk
        dsimp only at hcx hcy
        have HN := Lib.hid (fun h : xs.getD k 0 = ys.getD k 0 => HE.out.next h)
        have HNO : Hid (xs.getD k 0 ≠ ys.getD k 0 → decide (xs = ys) = false) := fun h => decide_eq_false fun e => h (by rw [e])
        obtain ⟨x, hxx⟩ : ∃ x, x = xs.getD k 0 := ⟨_, rfl⟩
        rw [← hxx] at hcx HN HNO
        obtain ⟨y, hyy⟩ : ∃ x, x = ys.getD k 0 := ⟨_, rfl⟩
        rw [← hyy] at hcy HN HNO
        clear hxx hyy
        by_cases hxy : x = y
        · have b2 : (x != y) = false := by rw [hxy]; exact bne_self_eq_false _
          have HN2 := Lib.hid (HN.out hxy)
          clear hxy
          go_upto_region 6 with fail
          go_big_quiet (fail)
          have HB2 := Lib.hid (below_drewN HB.out nq)
          clear hcx hcy HB
          generalize wr.drewN nq = w8 at *
          go_wp2_with fail
          go_roundw
          case rel => exact ⟨k + 1, by omega, by go_num, HN2.out, HB2.out⟩
          case measure => simp [intOf]; omega
        · have b2 : (x != y) = true := by rw [bne_iff_ne]; exact hxy
          have HN2 := Lib.hid (HNO.out hxy)
          clear hxy
          go_upto_region 6 with fail
          go_big_quiet (fail)
          have HB2 := Lib.hid (below_drewN HB.out nq)
          clear hcx hcy HB
          generalize wr.drewN nq = w8 at *
          go_wp2_with fail
          go_ret
          exact ⟨by rw [HN2.out]; rfl, HB2.out⟩
      · obtain rfl : k = n := by omega
        have HN2 : Hid (decide (xs = ys) = true) := decide_eq_true (Ints.same_of (by rw [HX.out.len, HY.out.len]) fun i hi => HE.out i (by rw [HX.out.len] at hi; exact hi))
        go_wp2_with fail
        go_ret
        exact ⟨by rw [HN2.out]; rfl, HB.out⟩
  · have b1 : ((n : Int) != (m : Int)) = true := by rw [bne_iff_ne]; omega
    have HN2 : Hid (decide (xs = ys) = false) := decide_eq_false fun e => hnm (by rw [← HX.out.len, ← HY.out.len, e])
    clear hnm
    go_wp2_with fail
    go_ret
    exact ⟨by rw [HN2.out]; rfl, Below.refl _ _⟩
end Ch
end Go.Proofs.Ytjikildiblchpaa
