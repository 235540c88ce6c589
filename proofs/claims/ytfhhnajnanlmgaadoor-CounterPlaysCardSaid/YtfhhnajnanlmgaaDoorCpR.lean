/- WALK: edenref5.Plays: the same by common divisors. -/
import Derived.Test.YtfhhnajnanlmgaaDoorCpC
namespace Go.Proofs.YtfhhnajnanlmgaaDoor
set_option linter.unusedSimpArgs false
set_option linter.unusedVariables false
open Go.RowKit
namespace Cp
open Tld Mem

def outN (o : Int × Int × Int) : Value := .tuple #[.int .i64 o.1, .int .i64 o.2.1, .int .i64 o.2.2]

theorem rows_at {w w' : World} {sa : Option Addr} {m i : Nat} {f : Nat → Nat → Int} (h : Mem.Rows w sa m 2 (fun i j => .int .i64 (f i j))) (hb : Below w.heap.size w w') (hi : i < m) :
    ∃ b off, sa = some ⟨b, off, none⟩ ∧ w'.cell? ⟨b, off + i * 2, none⟩ = some (.int .i64 (f i 0)) ∧ w'.cell? ⟨b, off + i * 2 + 1, none⟩ = some (.int .i64 (f i 1)) := by
  obtain ⟨b, off, e, hl, hc⟩ := h.below hb (Nat.le_refl _) i hi
  exact ⟨b, off, e, hc 0 (by omega), hc 1 (by omega)⟩

set_option maxHeartbeats 4000000 in
set_option maxRecDepth 1000000 in
theorem Plays_bad1 (sa : Option Addr) (m c : Nat) (n F : Int) (w : World) (h : n < 1 ∨ F < 0 ∨ 100000 < F) :
    Calls Tryd.prog 6 #[.slice sa m c, .int .i64 n, .int .i64 F] w fun e w' => e = .returned (outN (0, 0, 1)) ∧ Below w.heap.size w w' := by
  go_enter Tryd.func6, Tryd.ntmps6
  by_cases h1 : n < 1
  · have d1 := decide_eq_true h1
    clear h h1
    go_wp2_with fail
    go_ret3
    exact ⟨rfl, Below.refl _ _⟩
  · have d1 := decide_eq_false h1
    by_cases h2 : F < 0
    · have d2 := decide_eq_true h2
      clear h h1 h2
      go_wp2_with fail
      go_ret3
      exact ⟨rfl, Below.refl _ _⟩
    · have d2 := decide_eq_false h2
      have h3 : 100000 < F := by omega
      have d3 := decide_eq_true h3
      clear h h1 h2 h3
      go_wp2_with fail
      go_ret3
      exact ⟨rfl, Below.refl _ _⟩

set_option maxHeartbeats 8000000 in
set_option maxRecDepth 1000000 in
theorem Plays_any (sa : Option Addr) (m c : Nat) (f : Nat → Nat → Int) (n F : Nat) (w : World) (hm : m ≤ 9223372036854775807) (hF : Mem.Rows w sa m 2 (fun i j => .int .i64 (f i j))) (h1 : 1 ≤ n) (hn : n ≤ 9223372036854775807) (h3 : F ≤ 100000) (hG : ¬ BadIn f m → Good f m) :
    Calls Tryd.prog 6 #[.slice sa m c, .int .i64 n, .int .i64 F] w fun e w' => ((BadIn f m ∧ e = .returned (outN (0, 0, 1))) ∨ (¬ BadIn f m ∧ e = .returned (outN (plays f m F n 0)))) ∧ Below w.heap.size w w' := by
  have HF := Lib.hid hF
  have HG := Lib.hid hG
  clear hF hG
  have d1 : decide ((n : Int) < 1) = false := decide_eq_false (by omega)
  have d2 : decide ((F : Int) < 0) = false := decide_eq_false (by omega)
  have d3 : decide (100000 < (F : Int)) = false := decide_eq_false (by omega)
  obtain ⟨o, ho⟩ : ∃ o, o = plays f m F n 0 := ⟨_, rfl⟩
  rw [← ho]
  have HO := Lib.hid ho
  clear ho
  go_enter Tryd.func6, Tryd.ntmps6
  go_wp2_with fail
  go_loop [9] (fun v => ∃ i : Nat, i ≤ m ∧ v = .int .i64 i ∧ ∀ k, k < i → ¬ (f k 0 < 1 ∨ f k 1 < 1)) (fun v => m - (RowKit.intOf v).toNat)
  case atStart => exact ⟨0, Nat.zero_le _, rfl, fun k hk => absurd hk (Nat.not_lt_zero _)⟩
  case round =>
    clear d1 d2 d3
    obtain ⟨i, hi, rfl, hok⟩ := hrel
    have HOK := Lib.hid hok
    clear hok
    by_cases hlt : i < m
    · obtain ⟨b, off, rfl, c0, c1⟩ := rows_at HF.out (Below.refl _ _) hlt
      have hi2 : (i : Int) < (m : Int) := by omega
      have HI := Lib.hid hlt
      have HY : Hid (f i 0 < 1 ∨ f i 1 < 1 → BadIn f m) := fun h => bad_of hlt h
      have HOK2 : Hid (¬ (f i 0 < 1 ∨ f i 1 < 1) → ∀ k, k < i + 1 → ¬ (f k 0 < 1 ∨ f k 1 < 1)) := fun h k hk => by
        by_cases hki : k = i
        · subst hki; exact h
        · exact HOK.out k (by omega)
      generalize f i 0 = x at *
      generalize f i 1 = y at *
      by_cases hx : x < 1
      · have e1 := decide_eq_true hx
        have HB := Lib.hid (HY.out (.inl hx))
        clear hx
        go_wp2_with fail
        go_ret3
        exact ⟨.inl ⟨HB.out, rfl⟩, Below.refl _ _⟩
      · have e1 := decide_eq_false hx
        by_cases hy : y < 1
        · have e2 := decide_eq_true hy
          have HB := Lib.hid (HY.out (.inr hy))
          clear hx hy
          go_wp2_with fail
          go_ret3
          exact ⟨.inl ⟨HB.out, rfl⟩, Below.refl _ _⟩
        · have e2 := decide_eq_false hy
          have HB := Lib.hid (HOK2.out (fun h => h.elim hx hy))
          clear hx hy
          go_wp2_with fail
          go_round
          case rel => exact ⟨i + 1, HI.out, by go_num, HB.out⟩
          case measure => have := HI.out; simp [RowKit.intOf]; omega
    · have hlt2 : ¬ (i : Int) < (m : Int) := by omega
      have hnb : ¬ BadIn f m := fun ⟨k, hk, h⟩ => HOK.out k (by omega) (of_decide_eq_true h)
      have HNB := Lib.hid hnb
      have HG := Lib.hid (HG.out hnb)
      clear HOK hnb
      go_wp2_with fail
      go_loopw [1, 11] (fun u v wr => ∃ n k : Nat, u = .int .i64 n ∧ v = .int .i64 k ∧ k ≤ F ∧ 1 ≤ n ∧ n ≤ 9223372036854775807 ∧ o = plays f m (F - k) n k ∧ Below w.heap.size w wr) (fun _ v _ => F - (RowKit.intOf v).toNat)
      case atStart => exact ⟨n, 0, rfl, rfl, Nat.zero_le _, h1, hn, HO.out, Below.refl _ _⟩
      case round =>
        clear HO
        obtain ⟨n, k, rfl, rfl, hk, h1, hn, ho, hb⟩ := hrel
        have HO := Lib.hid ho
        have HB := Lib.hid hb
        have HKF := Lib.hid hk
        clear ho hb hk
        go_upto_block 4 with fail
        go_cut [12, 13, 14] from 47 to 78 (fun u _ _ wx => ((u = .int .i64 (-1) ∧ NoneGoes f m n) ∨ ∃ j : Nat, u = .int .i64 j ∧ First f m n j) ∧ Below w.heap.size w wx)
        case first =>
          go_wp2_with fail
          go_loopw [12, 13, 14] (fun u v _ wr => ∃ i : Nat, i ≤ m ∧ v = .int .i64 i ∧ ((u = .int .i64 (-1) ∧ ∀ k, k < i → ¬ goes f n k) ∨ ∃ j : Nat, u = .int .i64 j ∧ First f m n j) ∧ Below w.heap.size w wr) (fun _ v _ _ => m - (RowKit.intOf v).toNat)
          case atStart => exact ⟨0, Nat.zero_le _, rfl, .inl ⟨rfl, fun k hk => absurd hk (Nat.not_lt_zero _)⟩, HB.out⟩
          case round =>
            clear HB HO
            obtain ⟨i, hi, rfl, hcase, hb⟩ := hrel
            have HB := Lib.hid hb
            clear hb
            rcases hcase with ⟨rfl, hok⟩ | ⟨j, rfl, hj⟩
            · have HOK := Lib.hid hok
              clear hok
              by_cases hlt : i < m
              · obtain ⟨b, off, rfl, c0, c1⟩ := rows_at HF.out HB.out hlt
                have hi2 : (i : Int) < (m : Int) := by omega
                have HI := Lib.hid hlt
                rw [HG.out.up_eq hlt] at c0
                rw [HG.out.lw_eq hlt] at c1
                have HFI : Hid (goes f n i → First f m n i) := fun h => ⟨hlt, h, HOK.out⟩
                have HOK2 : Hid (¬ goes f n i → ∀ k, k < i + 1 → ¬ goes f n k) := fun h k hk => by
                  by_cases hki : k = i
                  · subst hki; exact h
                  · exact HOK.out k (by omega)
                have hg : goes f n i ↔ n * up f i % lw f i = 0 := Iff.rfl
                have u1 := HG.out.up_le hlt
                have v0 := HG.out.lw_pos hlt
                have v1 := HG.out.lw_le hlt
                generalize hu : up f i = u at *
                generalize hv : lw f i = v at *
                clear hu hv
                rw [goes_gcd v0] at hg
                have hg0 : 0 < Nat.gcd u v := Nat.gcd_pos_of_pos_right _ v0
                have hgle : Nat.gcd u v ≤ v := Nat.gcd_le_right _ v0
                have HDIV := fun k => divisor_any (a := u) (b := v) u1 v1 (wr.drewN k)
                obtain ⟨g, hgg⟩ : ∃ g, g = Nat.gcd u v := ⟨_, rfl⟩
                have hgv : g ∣ v := hgg ▸ Nat.gcd_dvd_right u v
                rw [← hgg] at hg hg0 hgle HDIV
                obtain ⟨l', hl⟩ : ∃ l', l' = v / g := ⟨_, rfl⟩
                have hl0 : 0 < l' := by rw [hl]; exact Nat.div_pos hgle hg0
                have hlle : l' ≤ v := by rw [hl]; exact Nat.div_le_self _ _
                obtain ⟨r, hr⟩ : ∃ r, r = n % l' := ⟨_, rfl⟩
                rw [← hl, ← hr] at hg
                have eq1 : (v : Int).tdiv (g : Int) = (l' : Int) := by rw [Int.tdiv_eq_ediv_of_nonneg (by omega), hl]; exact (Int.natCast_ediv _ _).symm
                have ew1 : IntKind.i64.wrap (l' : Int) = (l' : Int) := by rw [IntKind.wrap_i64]; omega
                have er1 : (n : Int).tmod (l' : Int) = (r : Int) := by rw [Int.tmod_eq_emod_of_nonneg (by omega), hr]; exact (Int.natCast_emod _ _).symm
                have z1 : ((g : Int) == 0) = false := beq_eq_false_iff_ne.2 (by omega)
                have z2 : ¬ g = 0 := by omega
                have z3 : ((l' : Int) == 0) = false := beq_eq_false_iff_ne.2 (by omega)
                have z4 : ¬ l' = 0 := by omega
                have HDIV := Lib.hid HDIV
                have HG3 := Lib.hid hg
                clear hg hl hr hgg hgv hgle hlle v0 v1 u1 hl0 hg0
                go_upto_region 14 with fail
                go_big_quiet (first | (go_at_call 22; refine Calls.quiet_of_same (HDIV.out _)))
                by_cases hz : r = 0
                · have dz : (((r : Nat) : Int) == 0) = true := by rw [hz]; rfl
                  have dz2 := @decide_eq_true (r = 0) _ hz
                  have HZ := Lib.hid hz
                  clear hz
                  go_wp2_with fail
                  refine ⟨⟨i + 1, HI.out, rfl, .inr ⟨i, rfl, HFI.out (HG3.out.2 HZ.out)⟩, below_drewN HB.out _⟩, ?_⟩
                  have := HI.out
                  simp [RowKit.intOf]; omega
                · have dz : (((r : Nat) : Int) == 0) = false := beq_eq_false_iff_ne.2 (by omega)
                  have dz2 := @decide_eq_false (r = 0) _ hz
                  have HZ := Lib.hid hz
                  clear hz
                  go_wp2_with fail
                  refine ⟨⟨i + 1, HI.out, rfl, .inl ⟨rfl, HOK2.out (fun h => HZ.out (HG3.out.1 h))⟩, below_drewN HB.out _⟩, ?_⟩
                  have := HI.out
                  simp [RowKit.intOf]; omega
              · have hlt2 : ¬ (i : Int) < (m : Int) := by omega
                have HN : Hid (NoneGoes f m n) := fun k hk => HOK.out k (by omega)
                go_wp2_with fail
                go_meet
                case rel => exact ⟨.inl ⟨rfl, HN.out⟩, HB.out⟩
            · have HJ := Lib.hid hj
              have hj2 : ¬ (j : Int) < 0 := by omega
              clear hj
              by_cases hlt : i < m
              · have hi2 : (i : Int) < (m : Int) := by omega
                go_wp2_with fail
                go_meet
                case rel => exact ⟨.inr ⟨j, rfl, HJ.out⟩, HB.out⟩
              · have hlt2 : ¬ (i : Int) < (m : Int) := by omega
                go_wp2_with fail
                go_meet
                case rel => exact ⟨.inr ⟨j, rfl, HJ.out⟩, HB.out⟩
        case rest =>
        obtain ⟨hcase, hb⟩ := hcut
        have HB := Lib.hid hb
        clear hb
        rename_i hKK
        refine hKK _ _ ?_
        clear hKK
        rcases hcase with ⟨rfl, hN⟩ | ⟨j, rfl, hj⟩
        · have HN := Lib.hid hN
          clear hN
          go_wp2_with fail
          go_ret3
          exact ⟨.inr ⟨HNB.out, by rw [HO.out, plays_none HN.out]; rfl⟩, HB.out⟩
        · have HJ := Lib.hid hj
          have hj2 : ¬ (j : Int) < 0 := by omega
          have hjm := hj.1
          clear hj
          by_cases hkF : F ≤ k
          · have e : k = F := by have := HKF.out; omega
            subst e
            go_wp2_with fail
            go_ret3
            exact ⟨.inr ⟨HNB.out, by rw [HO.out, Nat.sub_self, plays_fuel HJ.out]; rfl⟩, HB.out⟩
          · have dk := @decide_eq_false ((F : Int) ≤ (k : Int)) _ (by omega)
            have dk2 := @decide_eq_false (F ≤ k) _ hkF
            have HKF := Lib.hid hkF
            clear hkF
            obtain ⟨b, off, rfl, c0, c1⟩ := rows_at HF.out HB.out hjm
            have hjm2 : (j : Int) < (m : Int) := by omega
            rw [HG.out.up_eq hjm] at c0
            rw [HG.out.lw_eq hjm] at c1
            have hqp := quot_pos HG.out HJ.out (show 0 < n from h1)
            have hgo := HJ.out.2.1
            have hqt : quot f n j = n * up f j / lw f j := rfl
            unfold goes at hgo
            have u0 := HG.out.up_pos hjm
            have u1 := HG.out.up_le hjm
            have v0 := HG.out.lw_pos hjm
            have v1 := HG.out.lw_le hjm
            generalize hu : up f j = u at *
            generalize hv : lw f j = v at *
            clear hu hv
            have hqg := quot_gcd v0 hgo
            rw [← hqt] at hqg
            have hg0 : 0 < Nat.gcd u v := Nat.gcd_pos_of_pos_right _ v0
            have hgle : Nat.gcd u v ≤ v := Nat.gcd_le_right _ v0
            have hgle2 : Nat.gcd u v ≤ u := Nat.gcd_le_left _ u0
            have HDIV := fun k => divisor_any (a := u) (b := v) u1 v1 (wc.drewN k)
            obtain ⟨g, hgg⟩ : ∃ g, g = Nat.gcd u v := ⟨_, rfl⟩
            rw [← hgg] at hqg hg0 hgle hgle2 HDIV
            obtain ⟨l', hl⟩ : ∃ l', l' = v / g := ⟨_, rfl⟩
            have hl0 : 0 < l' := by rw [hl]; exact Nat.div_pos hgle hg0
            have hlle : l' ≤ v := by rw [hl]; exact Nat.div_le_self _ _
            obtain ⟨u', hu'⟩ : ∃ u', u' = u / g := ⟨_, rfl⟩
            have hu0 : 0 < u' := by rw [hu']; exact Nat.div_pos hgle2 hg0
            have hule : u' ≤ u := by rw [hu']; exact Nat.div_le_self _ _
            obtain ⟨m9, hm9⟩ : ∃ m9, m9 = n / l' := ⟨_, rfl⟩
            have hm9le : m9 ≤ n := by rw [hm9]; exact Nat.div_le_self _ _
            obtain ⟨t9, ht9⟩ : ∃ t9, t9 = 4611686018427387904 / u' := ⟨_, rfl⟩
            have ht9le : t9 ≤ 4611686018427387904 := by rw [ht9]; exact Nat.div_le_self _ _
            rw [← hl, ← hu', ← hm9] at hqg
            have htop : t9 < m9 ↔ 4611686018427387904 < quot f n j := by rw [ht9, ← hqg]; exact top_lt hu0
            have eq1 : (v : Int).tdiv (g : Int) = (l' : Int) := by rw [Int.tdiv_eq_ediv_of_nonneg (by omega), hl]; exact (Int.natCast_ediv _ _).symm
            have ew1 : IntKind.i64.wrap (l' : Int) = (l' : Int) := by rw [IntKind.wrap_i64]; omega
            have eq2 : (u : Int).tdiv (g : Int) = (u' : Int) := by rw [Int.tdiv_eq_ediv_of_nonneg (by omega), hu']; exact (Int.natCast_ediv _ _).symm
            have ew2 : IntKind.i64.wrap (u' : Int) = (u' : Int) := by rw [IntKind.wrap_i64]; omega
            have eq3 : (n : Int).tdiv (l' : Int) = (m9 : Int) := by rw [Int.tdiv_eq_ediv_of_nonneg (by omega), hm9]; exact (Int.natCast_ediv _ _).symm
            have ew3 : IntKind.i64.wrap (m9 : Int) = (m9 : Int) := by rw [IntKind.wrap_i64]; omega
            have eq4 : (4611686018427387904 : Int).tdiv (u' : Int) = (t9 : Int) := by
              rw [Int.tdiv_eq_ediv_of_nonneg (by omega), ht9]; exact (Int.natCast_ediv _ _).symm
            have ew4 : IntKind.i64.wrap (t9 : Int) = (t9 : Int) := by rw [IntKind.wrap_i64]; omega
            have z1 : ((g : Int) == 0) = false := beq_eq_false_iff_ne.2 (by omega)
            have z2 : ¬ g = 0 := by omega
            have z3 : ((l' : Int) == 0) = false := beq_eq_false_iff_ne.2 (by omega)
            have z4 : ¬ l' = 0 := by omega
            have z5 : ((u' : Int) == 0) = false := beq_eq_false_iff_ne.2 (by omega)
            have z6 : ¬ u' = 0 := by omega
            have HDIV := Lib.hid HDIV
            have HQP := Lib.hid hqp
            have HTOP := Lib.hid htop
            have HQG := Lib.hid hqg
            clear hl hu' hm9 ht9 hgg hgle hgle2 hlle hule hm9le ht9le v0 v1 u0 u1 hl0 hu0 hg0 hgo hqt hqp htop hqg
            go_upto_region 21 with fail
            go_big_quiet (first | (go_at_call 22; refine Calls.quiet_of_same (HDIV.out _)))
            by_cases hb9 : t9 < m9
            · have db := @decide_eq_true ((t9 : Int) < (m9 : Int)) _ (by omega)
              have db2 := @decide_eq_true (t9 < m9) _ hb9
              have HBG := Lib.hid (HTOP.out.1 hb9)
              clear hb9
              go_wp2_with fail
              go_ret3
              exact ⟨.inr ⟨HNB.out, by rw [HO.out, plays_big HJ.out HBG.out _ _ (by have := HKF.out; omega)]; rfl⟩, below_drewN HB.out _⟩
            · have db := @decide_eq_false ((t9 : Int) < (m9 : Int)) _ (by omega)
              have db2 := @decide_eq_false (t9 < m9) _ hb9
              have hq62 : quot f n j ≤ 4611686018427387904 := Nat.not_lt.1 fun h => hb9 (HTOP.out.2 h)
              have ewq : wrap64 ((m9 : Int) * (u' : Int)) = (quot f n j : Nat) := by
                rw [← HQG.out, ← Int.natCast_mul]; rw [← HQG.out] at hq62; unfold wrap64; omega
              have hgo := plays_go HJ.out hq62 (F - k) k (by have := HKF.out; omega)
              have HGO := Lib.hid hgo
              have HQ62 := Lib.hid hq62
              have HQP2 := HQP
              clear hgo hq62 hb9
              generalize quot f n j = q at *
              have ekk : wrap64 ((k : Int) + 1) = ((k + 1 : Nat) : Int) := by have := HKF.out; unfold wrap64; omega
              have EKK := Lib.hid ekk
              have EWQ := Lib.hid ewq
              clear ekk ewq
              go_wp2_with fail
              rw [EKK.out, EWQ.out]
              have hkf := HKF.out
              refine ⟨⟨q, k + 1, rfl, rfl, by omega, HQP.out, by have := HQ62.out; omega, by rw [HO.out, HGO.out, Nat.sub_sub], below_drewN HB.out _⟩, ?_⟩
              simp [RowKit.intOf]; omega
end Cp
end Go.Proofs.YtfhhnajnanlmgaaDoor
