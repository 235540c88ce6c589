/- WALK: counter.play: the first fraction that gives a whole number goes. -/
import Derived.Test.YtfhhnajnanlmgaaGreatDoorCpA
import Derived.Test.YtfhhnajnanlmgaaGreatDoorDv
import Derived.Deep.CutBlock
namespace Go.Proofs.YtfhhnajnanlmgaaGreatDoor
set_option linter.unusedSimpArgs false
set_option linter.unusedVariables false
open Go.RowKit
namespace Cp
open Tld Mem

/-- The sentinel, as the variable holds it. -/
def Sent (w : World) (a : Addr) : Prop := w.cell? ⟨0, 0, none⟩ = some (.iface 183 (.pointer (some a)))
theorem Sent.lt {w : World} {a : Addr} (h : Sent w a) : 0 < w.heap.size := lt_of_cell h
theorem Sent.keep {w w' : World} {a : Addr} (h : Sent w a) (hb : Below w.heap.size w w') : Sent w' a := by
  unfold Sent
  rw [hb.cell (p := ⟨0, 0, none⟩) h.lt]
  exact h
theorem below_drewN {B : Nat} {w w' : World} (h : Below B w w') (n : Nat) : Below B w (w'.drewN n) := by
  exact ⟨h.os, h.tape, h.output, h.size, h.block⟩
/-- What play hands back. -/
def PlayIs (f : Nat → Nat → Int) (m n : Nat) (a : Addr) (e : Ending) : Prop :=
  (NoneGoes f m n ∧ e = .returned (.tuple #[.int .i64 0, .iface 183 (.pointer (some a))])) ∨
  (∃ i, First f m n i ∧ ((4611686018427387904 < quot f n i ∧ e = .returned (.tuple #[.int .i64 0, .iface 53 (.int .i64 4)])) ∨ (quot f n i ≤ 4611686018427387904 ∧ e = .returned (.tuple #[.int .i64 (quot f n i : Nat), .nilIface]))))
theorem PlayIs.none {f : Nat → Nat → Int} {m n : Nat} {a : Addr} (h : NoneGoes f m n) : PlayIs f m n a (.returned (.tuple #[.int .i64 0, .iface 183 (.pointer (some a))])) := .inl ⟨h, rfl⟩
theorem PlayIs.big {f : Nat → Nat → Int} {m n i : Nat} {a : Addr} (h : First f m n i) (hq : 4611686018427387904 < quot f n i) : PlayIs f m n a (.returned (.tuple #[.int .i64 0, .iface 53 (.int .i64 4)])) := .inr ⟨i, h, .inl ⟨hq, rfl⟩⟩
theorem PlayIs.go {f : Nat → Nat → Int} {m n i : Nat} {a : Addr} (h : First f m n i) (hq : quot f n i ≤ 4611686018427387904) : PlayIs f m n a (.returned (.tuple #[.int .i64 (quot f n i : Nat), .nilIface])) := .inr ⟨i, h, .inr ⟨hq, rfl⟩⟩

set_option maxHeartbeats 8000000 in
set_option maxRecDepth 1000000 in
theorem play_any (sa : Option Addr) (m c : Nat) (f : Nat → Nat → Int) (n : Nat) (a : Addr) (w : World) (hm : m ≤ 9223372036854775807) (hF : Mem.Rows w sa m 2 (fun i j => .int .i64 (f i j))) (hG : Good f m) (hn : n ≤ 9223372036854775807) (hS : Sent w a) :
    Calls Tryz.prog 35 #[.slice sa m c, .int .i64 n] w fun e w' => PlayIs f m n a e ∧ Below w.heap.size w w' := by
  have HF := Lib.hid hF
  have HGD := Lib.hid hG
  have HSN := Lib.hid hS
  clear hF hG hS
  have hcn : IntKind.u64.wrap (n : Int) = (n : Int) := Dv.w64 n (by omega)
  go_enter Tryz.func35, Tryz.ntmps35
  go_wp2
  go_loopw [16] (fun v wr => ∃ i : Nat, i ≤ m ∧ v = .int .i64 i ∧ (∀ k, k < i → ¬ goes f n k) ∧ Below w.heap.size w wr) (fun v _ => m - (intOf v).toNat)
  case atStart => exact ⟨0, Nat.zero_le _, rfl, fun k hk => absurd hk (Nat.not_lt_zero _), Below.refl _ _⟩
  case round =>
    obtain ⟨i, hi, rfl, hok, hb⟩ := hrel
    have HOK := Lib.hid hok
    have HB := Lib.hid hb
    clear hok hb
    by_cases hlt : i < m
    · obtain ⟨b, off, rfl, hbl, hrest⟩ := HF.out i hlt
      clear hrest
      have l1 := fracs_range ((HF.out).below HB.out (Nat.le_refl _)) hlt
      have hi2 : (i : Int) < (m : Int) := by omega
      rw [HGD.out.up_eq hlt, HGD.out.lw_eq hlt] at l1
      have HFI : Hid (goes f n i → First f m n i) := fun h => ⟨hlt, h, HOK.out⟩
      have HOK2 : Hid (¬ goes f n i → ∀ k, k < i + 1 → ¬ goes f n k) := fun h k hk => by
        by_cases hki : k = i
        · subst hki; exact h
        · exact HOK.out k (by omega)
      have hg : goes f n i ↔ n * up f i % lw f i = 0 := Iff.rfl
      have hqt : quot f n i = n * up f i / lw f i := rfl
      have u0 := HGD.out.up_pos hlt
      have u1 := HGD.out.up_le hlt
      have v0 := HGD.out.lw_pos hlt
      have v1 := HGD.out.lw_le hlt
      generalize hu : up f i = u at *
      generalize hv : lw f i = v at *
      clear hu hv
      obtain ⟨x, hx⟩ : ∃ x, x = n * u := ⟨_, rfl⟩
      have hMul := Tryz.bits_Mul64 n u (by omega) (by omega)
      rw [← hx] at hMul hg hqt
      have hx128 : x / 18446744073709551616 < 9223372036854775808 := by
        refine (Nat.div_lt_iff_lt_mul (by decide)).2 ?_
        rw [hx]
        refine Nat.lt_of_le_of_lt (Nat.mul_le_mul hn u1) (by decide)
      have hlo : x % 18446744073709551616 < 18446744073709551616 := Nat.mod_lt _ (by decide)
      have hcu : IntKind.u64.wrap (u : Int) = (u : Int) := Dv.w64 u (by omega)
      have hcv : IntKind.u64.wrap (v : Int) = (v : Int) := Dv.w64 v (by omega)
      have HX1 := Lib.hid (rest_mod x v)
      have HX2 := Lib.hid (split x)
      have HX3 : Hid (v ≤ x / 18446744073709551616 → 4611686018427387904 < x / v) := Lib.hid (big v0)
      have HG := Lib.hid hg
      have HQT := Lib.hid hqt
      clear hg hqt hx
      generalize hhi : x / 18446744073709551616 = hiw at *
      generalize hlw : x % 18446744073709551616 = low at *
      clear hhi hlw
      have hrow : Row (wr.alloc (.cells #[.int .i64 u, .int .i64 v] 75)) wr.heap.size 75 [.int .i64 u, .int .i64 v] := row_alloc wr _ _
      have hbn2 : Below wr.heap.size wr (wr.alloc (.cells #[.int .i64 u, .int .i64 v] 75)) := (Below.refl _ _).alloc (Nat.le_refl _) _
      have HB := Lib.hid (HB.out.trans (hbn2.mono HB.out.size))
      have HE := Lib.hid hrow
      clear hbn2 hrow
      go_wp2_with (refine wpList_load_mid rfl 75 _ rfl b (off + i * 2) rfl _ _ l1 Tryz.underlying75 rfl infoFrac ?_)
      clear l1
      obtain ⟨b7, hb7⟩ : ∃ b7, b7 = wr.heap.size := ⟨_, rfl⟩
      rw [← hb7] at HE ⊢
      clear hb7
      generalize wr.alloc (.cells #[.int .i64 u, .int .i64 v] 75) = w2 at *
      have HMul := Lib.hid (hMul w2)
      clear hMul
      have e0 := HE.out.cell 0
      have e1 := HE.out.cell 1
      dsimp only [List.getElem?_cons_succ, List.getElem?_cons_zero] at e0 e1
      refine HMul.out.mono ?_
      rintro e1 w1 ⟨rfl, rfl⟩
      have hvz : ((v : Int) == 0) = false := beq_eq_false_iff_ne.2 (by omega)
      have hvz2 : (v : Int) ≠ 0 := by omega
      have hvz3 : ¬ v = 0 := by omega
      have HI := Lib.hid hlt
      obtain ⟨z, hzz⟩ : ∃ z, z = x % v := ⟨_, rfl⟩
      have hg9 := HG.out
      rw [← hzz] at hg9
      have HG := Lib.hid hg9
      clear hg9
      by_cases hge : v ≤ hiw
      · have dge := @decide_eq_true ((v : Int) ≤ (hiw : Int)) _ (by omega)
        have dge2 := @decide_eq_true (v ≤ hiw) _ hge
        have er : (hiw : Int) % (v : Int) = ((hiw % v : Nat) : Int) := (Int.natCast_emod _ _).symm
        have hml : hiw % v < v := Nat.mod_lt _ v0
        have HDV := fun k => Dv.div64 (hiw % v) low v hml hlo (by omega) (w1.drewN k)
        rw [HX1.out, ← hzz] at HDV
        have HDV := Lib.hid HDV
        generalize (hiw % v * 18446744073709551616 + low) / v = qq at *
        generalize hiw % v = hm9 at *
        have HBIG := Lib.hid (HX3.out hge)
        clear hge hml hzz
        go_upto_region 6 with fail
        go_big_quiet (first | (go_at_call 48; refine Calls.quiet_of (HDV.out _)))
        by_cases hz : z = 0
        · have dz : (((z : Nat) : Int) == 0) = true := by rw [hz]; rfl
          have dz2 := @decide_eq_true (z = 0) _ hz
          have HZ := Lib.hid hz
          clear hz
          go_wp2_with fail
          go_ret2
          exact ⟨PlayIs.big (HFI.out (HG.out.2 HZ.out)) (by rw [HQT.out]; exact HBIG.out), below_drewN HB.out _⟩
        · have dz : (((z : Nat) : Int) == 0) = false := beq_eq_false_iff_ne.2 (by omega)
          have dz2 := @decide_eq_false (z = 0) _ hz
          have HZ := Lib.hid hz
          clear hz
          go_wp2_with fail
          refine ⟨⟨i + 1, by omega, rfl, HOK2.out (fun h => HZ.out (HG.out.1 h)), below_drewN HB.out _⟩, ?_⟩
          have hi9 := HI.out
          simp [RowKit.intOf]; omega
      · have dge := @decide_eq_false ((v : Int) ≤ (hiw : Int)) _ (by omega)
        have dge2 := @decide_eq_false (v ≤ hiw) _ hge
        have HDV := Dv.div64 hiw low v (by omega) hlo (by omega) w1
        rw [HX2.out, ← hzz] at HDV
        have hq64 : x / v < 18446744073709551616 := by
          refine (Nat.div_lt_iff_lt_mul v0).2 ?_
          rw [← HX2.out]
          have : (hiw + 1) * 18446744073709551616 ≤ v * 18446744073709551616 := Nat.mul_le_mul_right _ (by omega)
          rw [Nat.mul_comm 18446744073709551616]
          omega
        have HDV := Lib.hid HDV
        have hQ := HQT.out
        obtain ⟨q, hq⟩ : ∃ q, q = x / v := ⟨_, rfl⟩
        rw [← hq] at HDV hq64 hQ
        have HQT := Lib.hid hQ
        clear hq hQ hge hzz
        by_cases hz : z = 0
        · have dz : (((z : Nat) : Int) == 0) = true := by rw [hz]; rfl
          have dz2 := @decide_eq_true (z = 0) _ hz
          have HZ := Lib.hid hz
          clear hz
          by_cases hb : 4611686018427387904 < q
          · have db := @decide_eq_true ((4611686018427387904 : Int) < (q : Int)) _ (by omega)
            have db2 := @decide_eq_true (4611686018427387904 < q) _ hb
            have HBG := Lib.hid hb
            clear hb
            go_wp2_with (go_at_call 48; refine HDV.out.mono ?_; rintro e9 w9 ⟨rfl, d9, hw9⟩; rw [hw9])
            go_ret2
            exact ⟨PlayIs.big (HFI.out (HG.out.2 HZ.out)) (by rw [HQT.out]; exact HBG.out), below_drewN HB.out _⟩
          · have db := @decide_eq_false ((4611686018427387904 : Int) < (q : Int)) _ (by omega)
            have db2 := @decide_eq_false (4611686018427387904 < q) _ hb
            have hcq : IntKind.i64.wrap (q : Int) = (q : Int) := by rw [IntKind.wrap_i64]; omega
            have HBG := Lib.hid (Nat.not_lt.1 hb)
            clear hb
            go_wp2_with (go_at_call 48; refine HDV.out.mono ?_; rintro e9 w9 ⟨rfl, d9, hw9⟩; rw [hw9])
            go_ret2
            exact ⟨by have := PlayIs.go (a := a) (HFI.out (HG.out.2 HZ.out)) (by rw [HQT.out]; exact HBG.out); rw [HQT.out] at this; exact this, below_drewN HB.out _⟩
        · have dz : (((z : Nat) : Int) == 0) = false := beq_eq_false_iff_ne.2 (by omega)
          have dz2 := @decide_eq_false (z = 0) _ hz
          have HZ := Lib.hid hz
          clear hz
          go_wp2_with (go_at_call 48; refine HDV.out.mono ?_; rintro e9 w9 ⟨rfl, d9, hw9⟩; rw [hw9])
          refine ⟨⟨i + 1, by omega, rfl, HOK2.out (fun h => HZ.out (HG.out.1 h)), below_drewN HB.out _⟩, ?_⟩
          have hi9 := HI.out
          simp [RowKit.intOf]; omega
    · have HN : Hid (NoneGoes f m n) := fun k hk => HOK.out k (by omega)
      have hlt2 : ¬ (i : Int) < (m : Int) := by omega
      have s1 : Sent wr a := HSN.out.keep HB.out
      unfold Sent at s1
      go_wp2_with fail
      go_big_quiet (fail)
      go_wp2_with fail
      go_ret2
      exact ⟨PlayIs.none HN.out, below_drewN HB.out _⟩
end Cp
end Go.Proofs.YtfhhnajnanlmgaaGreatDoor
