/- WALK: chips.often: how many times all of a set can give. -/
import Derived.Test.YtjikildiblchpaaChF
import Derived.Test.YtjikildiblchpaaRtL
namespace Go.Proofs.Ytjikildiblchpaa
set_option linter.unusedSimpArgs false
set_option linter.unusedVariables false
open Go.RowKit Go.Lib
namespace Ch
open Tld Mem Rt

/-- How often the first k can give. -/
def OftenI (P : Nat) (E : Nat → Nat → Nat) (D : Nat → Int) (S : Nat → Bool) (k : Nat) (t : Int) : Prop :=
  (t = -1 ∧ ∀ j, j < k → S j = true → outS P E S j = 0) ∨ (1 ≤ t ∧ ∀ j, j < k → S j = true → t * (outS P E S j : Int) ≤ D j)
theorem often_start {P : Nat} {E : Nat → Nat → Nat} {D : Nat → Int} {S : Nat → Bool} : OftenI P E D S 0 (-1) := .inl ⟨rfl, fun j hj => absurd hj (Nat.not_lt_zero _)⟩
theorem often_skip {P : Nat} {E : Nat → Nat → Nat} {D : Nat → Int} {S : Nat → Bool} {k : Nat} {t : Int} (h : OftenI P E D S k t) (h0 : S k = true → outS P E S k = 0) (hD : S k = true → 0 ≤ D k) : OftenI P E D S (k + 1) t := by
  rcases h with ⟨h1, h2⟩ | ⟨h1, h2⟩
  · refine .inl ⟨h1, fun j hj hs => ?_⟩
    by_cases e : j = k
    · rw [e] at hs ⊢; exact h0 hs
    · exact h2 j (by omega) hs
  · refine .inr ⟨h1, fun j hj hs => ?_⟩
    by_cases e : j = k
    · rw [e] at hs ⊢; rw [h0 hs]; have := hD hs; simpa using this
    · exact h2 j (by omega) hs
theorem often_new {P : Nat} {E : Nat → Nat → Nat} {D : Nat → Int} {S : Nat → Bool} {k d o : Nat} {t : Int} (h : OftenI P E D S k t) (ho : outS P E S k = o) (hd : D k = (d : Int)) (h0 : 0 < o) (hle : o ≤ d) (hlt : t < 0 ∨ ((d / o : Nat) : Int) < t) (hz : ∀ j, j < k → S j = true → 0 ≤ D j) : OftenI P E D S (k + 1) ((d / o : Nat) : Int) := by
  have h1 : 1 ≤ d / o := (Nat.one_le_div_iff h0).2 hle
  have h2 : d / o * o ≤ d := Nat.div_mul_le_self d o
  refine .inr ⟨by omega, fun j hj hs => ?_⟩
  by_cases e : j = k
  · rw [e, ho, hd, ← Int.natCast_mul]; omega
  · rcases h with ⟨h3, h4⟩ | ⟨h3, h4⟩
    · rw [h4 j (by omega) hs]; have := hz j (by omega) hs; simpa using this
    · have h5 := h4 j (by omega) hs
      have h6 : ((d / o : Nat) : Int) * (outS P E S j : Int) ≤ t * (outS P E S j : Int) := Int.mul_le_mul_of_nonneg_right (by omega) (Int.natCast_nonneg _)
      omega
theorem often_old {P : Nat} {E : Nat → Nat → Nat} {D : Nat → Int} {S : Nat → Bool} {k d o : Nat} {t : Int} (h : OftenI P E D S k t) (ho : outS P E S k = o) (hd : D k = (d : Int)) (h0 : 0 < o) (ht : 0 ≤ t) (hlt : t ≤ ((d / o : Nat) : Int)) : OftenI P E D S (k + 1) t := by
  have h2 : d / o * o ≤ d := Nat.div_mul_le_self d o
  rcases h with ⟨h3, h4⟩ | ⟨h3, h4⟩
  · omega
  · refine .inr ⟨h3, fun j hj hs => ?_⟩
    by_cases e : j = k
    · rw [e, ho, hd]
      have h6 : t * (o : Int) ≤ ((d / o : Nat) : Int) * (o : Int) := Int.mul_le_mul_of_nonneg_right hlt (Int.natCast_nonneg _)
      rw [← Int.natCast_mul] at h6
      omega
    · exact h4 j (by omega) hs

set_option maxHeartbeats 8000000 in
set_option maxRecDepth 1000000 in
theorem often_any (P : Nat) (E : Nat → Nat → Nat) (Dg : Nat → Nat) (bn bd cd bs cs : Nat) (S : Nat → Bool) (D : Nat → Int) (w0 w : World) (hN : Net w0 bn P E Dg) (hB : Below w0.heap.size w0 w) (hD : Vec w bd P D) (hS : VecB w bs P S) (hP : P ≤ 10) (hfew : ∀ k, k < P → outS P E S k ≤ 4000) (hE : ∀ k o, k < P → o < P → E k o ≤ 4000) (hleg : ∀ k, k < P → S k = true → (outS P E S k : Int) ≤ D k) (htop : ∀ k, k < P → D k ≤ 9000000000000000000) :
    Calls Try.prog 40 #[.pointer (some ⟨bn, 0, none⟩), .slice (some ⟨bd, 0, none⟩) P cd, .slice (some ⟨bs, 0, none⟩) P cs] w fun e w' => (∃ t : Int, e = .returned (.int .i64 t) ∧ OftenI P E D S P t) ∧ w' = w := by
  have HR := Lib.hid (net_read hN hB)
  have HS := Lib.hid hS
  have HD := Lib.hid hD
  have HF := Lib.hid hfew
  have HE := Lib.hid hE
  have HL := Lib.hid hleg
  have HT := Lib.hid htop
  clear hN hB hD hS hfew hE hleg htop
  go_enter Try.func40, Try.ntmps40
  go_wp2_with fail
  go_loopw [7, 15] (fun y z wr => ∃ (k : Nat) (t : Int), k ≤ P ∧ y = .int .i64 t ∧ z = .int .i64 (k : Int) ∧ OftenI P E D S k t ∧ t ≤ 9000000000000000000 ∧ wr = w) (fun _ z _ => P - (intOf z).toNat)
  case atStart => exact ⟨0, -1, Nat.zero_le _, rfl, rfl, often_start, by omega, rfl⟩
  case round =>
    obtain ⟨k, t, hkP, rfl, rfl, ho, ht9, rfl⟩ := hrel
    have HO := Lib.hid ho
    have ht0 : -1 ≤ t := by rcases ho with h | h <;> omega
    clear ho
    by_cases hk : k < P
    · have hk2 : (k : Int) < (P : Int) := by omega
      have s1 := HS.out.cell hk
      obtain ⟨be, ce, bk, n1, n2, n3, n4⟩ := HR.out
      have r1 := n2 k hk
      have HR3 := Lib.hid (n3 k hk)
      clear n2 n3 n4
      obtain ⟨bkk, hbkk⟩ : ∃ b, b = bk k := ⟨_, rfl⟩
      rw [← hbkk] at r1 HR3
      clear hbkk
      obtain ⟨sk, hsk⟩ : ∃ b, b = S k := ⟨_, rfl⟩
      rw [← hsk] at s1
      have HSK := Lib.hid hsk
      clear hsk
      obtain ⟨wo, rfl⟩ : ∃ wo : World, wo = wr := ⟨_, rfl⟩
      have HPL : Hid (∀ n, n ≤ P → sumN (fun i => if S i then 0 else E k i) n ≤ 4000) := fun n hn => Nat.le_trans (sumN_mono hn) (HF.out k hk)
      go_wp2_with fail
      clear s1 n1 r1
      go_loopw [10, 28] (fun y z wx => ∃ o : Nat, o ≤ P ∧ z = .int .i64 (o : Int) ∧ y = .int .i64 ((if sk = true then sumN (fun i => if S i then 0 else E k i) o else 0 : Nat) : Int) ∧ wx = wo) (fun _ z _ => P - (intOf z).toNat)
      case atStart => exact ⟨0, Nat.zero_le _, rfl, by split <;> rfl, rfl⟩
      case round =>
        obtain ⟨o, hoP, rfl, rfl, rfl⟩ := hrel
        by_cases ho : o < P
        · have ho3 : (o : Int) < (P : Int) := by omega
          have e1 := HR3.out o ho
          have s1 := HS.out.cell ho
          have HNX : Hid (sumN (fun i => if S i then 0 else E k i) (o + 1) = sumN (fun i => if S i then 0 else E k i) o + if S o then 0 else E k o) := rfl
          have hp1 := HPL.out o hoP
          have he1 := HE.out k o hk ho
          obtain ⟨so, hso⟩ : ∃ b, b = S o := ⟨_, rfl⟩
          rw [← hso] at s1 HNX
          clear hso
          generalize hm2 : sumN (fun i => if S i then 0 else E k i) (o + 1) = m2 at *
          have HM2 := Lib.hid hm2
          clear hm2
          generalize sumN (fun i => if S i then 0 else E k i) o = m1 at *
          generalize E k o = x at *
          cases sk
          case false =>
            go_wp2_with fail
            go_roundw
            case rel => exact ⟨o + 1, by omega, by go_num, by simp, by trivial⟩
            case measure => simp [intOf]; omega
          case true =>
            cases so
            case false =>
              have HX : Hid (m2 = m1 + x) := HNX.out
              have hf1 : (m1 : Int) + (x : Int) ≤ 9223372036854775807 := by omega
              have hf2 : (-9223372036854775808 : Int) ≤ (m1 : Int) + (x : Int) := by omega
              rw [if_pos rfl]
              go_wp2_with fail
              go_roundw
              case rel => exact ⟨o + 1, by omega, by go_num, by rw [HM2.out, HX.out, Int.natCast_add], by trivial⟩
              case measure => simp [intOf]; omega
            case true =>
              have HX : Hid (m2 = m1) := HNX.out
              rw [if_pos rfl]
              go_wp2_with fail
              go_roundw
              case rel => exact ⟨o + 1, by omega, by go_num, by rw [HM2.out, HX.out], by trivial⟩
              case measure => simp [intOf]; omega
        · obtain rfl : o = P := by omega
          have d1 := HD.out.cell hk
          have HZ : Hid (∀ j, j < o → S j = true → 0 ≤ D j) := fun j hj hs => by have := HL.out j hj hs; omega
          have HOS : Hid (sk = true → sumN (fun i => if S i then 0 else E k i) o = outS o E S k) := fun _ => rfl
          have hf4 := HF.out k hk
          have HLK := Lib.hid (HL.out k hk)
          have HTK := Lib.hid (HT.out k hk)
          obtain ⟨n, hn⟩ : ∃ n, n = (if sk = true then sumN (fun i => if S i then 0 else E k i) o else 0 : Nat) := ⟨_, rfl⟩
          rw [← hn]
          have hn4 : n ≤ 4000 := by
            rw [hn]; split
            · exact HPL.out o (Nat.le_refl _)
            · omega
          by_cases h0 : n = 0
          · have HO2 : Hid (OftenI o E D S (k + 1) t) := often_skip HO.out (fun hs => by
              rw [HSK.out, if_pos hs] at hn
              show sumN _ o = 0
              omega) (HZ.out k hk)
            have g1 : ¬ (0 : Int) < (n : Int) := by omega
            clear hn h0
            go_wp2_with fail
            go_roundw
            case rel => exact ⟨k + 1, t, by omega, rfl, by go_num, HO2.out, ht9, by trivial⟩
            case measure => simp [intOf]; omega
          · have hst : S k = true := by
              rw [← HSK.out]
              cases sk
              · rw [if_neg (by decide)] at hn; exact absurd hn h0
              · rfl
            have HON : Hid (outS o E S k = n) := by
              show sumN _ o = n
              rw [hn, HSK.out, if_pos hst]
            have hld := HLK.out hst
            rw [HON.out] at hld
            have htk := HTK.out
            obtain ⟨d, hd⟩ : ∃ d : Nat, D k = (d : Int) := ⟨(D k).toNat, by omega⟩
            have HDK := Lib.hid hd
            rw [hd] at d1 hld htk
            have HNW : Hid ((t < 0 ∨ ((d / n : Nat) : Int) < t) → OftenI o E D S (k + 1) ((d / n : Nat) : Int)) := fun h => often_new HO.out HON.out HDK.out (by omega) (by omega) h fun j hj => HZ.out j (by omega)
            have HOD : Hid (0 ≤ t → t ≤ ((d / n : Nat) : Int) → OftenI o E D S (k + 1) t) := fun h1 h2 => often_old HO.out HON.out HDK.out (by omega) h1 h2
            have hq : (d : Int).tdiv (n : Int) = ((d / n : Nat) : Int) := Int.ofNat_tdiv _ _
            have hqd : d / n ≤ d := Nat.div_le_self _ _
            generalize d / n = q at *
            have g1 : (0 : Int) < (n : Int) := by omega
            have g2 : ((n : Int) == 0) = false := by rw [beq_eq_false_iff_ne]; omega
            have g3 : ¬ n = 0 := h0
            clear hn h0 hst hd HZ HOS HLK HTK
            by_cases c1 : t < 0
            · have HO2 := Lib.hid (HNW.out (.inl c1))
              go_wp2_with fail
              go_roundw
              case rel => exact ⟨k + 1, (q : Int), by omega, rfl, by go_num, HO2.out, by omega, by trivial⟩
              case measure => simp [intOf]; omega
            by_cases c2 : (q : Int) < t
            · have HO2 := Lib.hid (HNW.out (.inr c2))
              go_wp2_with fail
              go_roundw
              case rel => exact ⟨k + 1, (q : Int), by omega, rfl, by go_num, HO2.out, by omega, by trivial⟩
              case measure => simp [intOf]; omega
            · have HO2 := Lib.hid (HOD.out (by omega) (by omega))
              go_wp2_with fail
              go_roundw
              case rel => exact ⟨k + 1, t, by omega, rfl, by go_num, HO2.out, ht9, by trivial⟩
              case measure => simp [intOf]; omega
    · obtain rfl : k = P := by omega
      go_wp2_with fail
      go_ret
      exact ⟨⟨t, rfl, HO.out⟩, rfl⟩
end Ch
end Go.Proofs.Ytjikildiblchpaa
