/- THE LAW CounterRuns: its walk, out of its callees' contracts. -/
import Derived.Test.YtfhhnajnanlmgaaDoorCrV
import Derived.Test.YtfhhnajnanlmgaaDoorCrG
import Derived.Test.YtfhhnajnanlmgaaDoorCrH
import Derived.Test.YtfhhnajnanlmgaaDoorCrE
import Derived.Test.YtfhhnajnanlmgaaDoorCrT
import Derived.Test.YtfhhnajnanlmgaaDoorTold
namespace Go.Proofs.YtfhhnajnanlmgaaDoor
set_option linter.unusedSimpArgs false
set_option linter.unusedVariables false
open Go.RowKit
namespace Cr
open Tld Mem

theorem runM_err (f : Nat → Nat → Int) : ∀ d c k n, 0 ≤ (runM f d c k n).2.2.2 ∧ (runM f d c k n).2.2.2 ≤ 6
  | 0, c, k, n => by
    unfold runM
    split <;> simp
  | d + 1, c, k, n => by
    unfold runM
    split
    · simp
    · split
      · split
        · simp
        · exact runM_err f d _ _ _
      · split
        · exact runM_err f d _ _ _
        · exact runM_err f d _ _ _
/-- Both give the same. -/
theorem bothRun (sa : Option Addr) (m c : Nat) (f : Nat → Nat → Int) (ca : Option Addr) (cn cc : Nat) (zs : List Int) (F : Int) (w : World) (hF : Mem.Rows w sa m 4 (fun i j => .int .i64 (f i j))) (hok : CodeOk f m) (hZ : Ints.Is w ca cn zs) :
    ∃ o : List Int × Nat × Nat × Int, (0 ≤ o.2.2.2 ∧ o.2.2.2 ≤ 6) ∧ (∀ w2, Below w.heap.size w w2 → Calls Tryd.prog 12 #[.slice sa m c, .slice ca cn cc, .int .i64 F] w2 fun e w' => RunP o e w' ∧ Below w2.heap.size w2 w') ∧
      (∀ w2, Below w.heap.size w w2 → Calls Tryd.prog 16 #[.slice sa m c, .slice ca cn cc, .int .i64 F] w2 fun e w' => PlayP o e w' ∧ Below w2.heap.size w2 w') := by
  have hle := hZ.le
  unfold maxLen at hle
  by_cases h4 : cn = 4
  · subst h4
    by_cases hb : RBad F zs
    · refine ⟨([], 0, 0, 1), by decide, fun w2 hb2 => ?_, fun w2 hb2 => ?_⟩
      · refine (Run_range sa m c f ca cc zs F w2 (hF.below hb2 (Nat.le_refl _)) hok (hZ.keep hb2) hb).mono ?_
        rintro e w' ⟨rfl, h⟩
        exact ⟨⟨_, _, _, rfl, Ints.Is.nil _⟩, h⟩
      · refine (Play_any sa m c f ca cc zs F w2 (hF.below hb2 (Nat.le_refl _)) hok (hZ.keep hb2)).mono ?_
        rintro e w' ⟨h1, h⟩
        exact ⟨h1.1 hb, h⟩
    · obtain ⟨F, rfl⟩ : ∃ F' : Nat, F = F' := ⟨F.toNat, by unfold RBad at hb; omega⟩
      refine ⟨runM f F zs 0 0, runM_err f F zs 0 0, fun w2 hb2 => ?_, fun w2 hb2 => ?_⟩
      · exact Run_ok sa m c f ca cc zs F w2 (hF.below hb2 (Nat.le_refl _)) hok (hZ.keep hb2) hb
      · refine (Play_any sa m c f ca cc zs F w2 (hF.below hb2 (Nat.le_refl _)) hok (hZ.keep hb2)).mono ?_
        rintro e w' ⟨h1, h⟩
        refine ⟨?_, h⟩
        have := h1.2 hb
        rw [Int.toNat_natCast] at this
        exact this
  · refine ⟨([], 0, 0, 3), by decide, fun w2 hb2 => ?_, fun w2 hb2 => Play_len sa m c ca cn cc F w2 h4⟩
    refine (Run_len sa m c f ca cn cc F w2 (hF.below hb2 (Nat.le_refl _)) hok h4 hle).mono ?_
    rintro e w' ⟨rfl, h⟩
    exact ⟨⟨_, _, _, rfl, Ints.Is.nil _⟩, h⟩
set_option maxHeartbeats 8000000 in
set_option maxRecDepth 1000000 in
theorem counterRuns_bad (sa : Option Addr) (m c : Nat) (f : Nat → Nat → Int) (ca : Option Addr) (cn cc : Nat) (zs : List Int) (F : Int) (w : World) (hm : m ≤ 9223372036854775807) (hF : Mem.Rows w sa m 4 (fun i j => .int .i64 (f i j))) (hZ : Ints.Is w ca cn zs) (hL : Tld.Laid w) (hb : codeF f m ≠ 0) :
    Calls Tryd.prog 4 #[.slice sa m c, .slice ca cn cc, .int .i64 F] w fun e w' => e = .returned (.bool true) ∧ Below w.heap.size w w' := by
  have hr := codeF_range f m
  have HF : Hid (∀ w2, Below w.heap.size w w2 → Mem.Rows w2 sa m 4 (fun i j => .int .i64 (f i j))) := Lib.hid (fun w2 h => hF.below h (Nat.le_refl _))
  have HL := Lib.hid hL
  have HB0 := Lib.hid hb
  have HB : Hid (Below w.heap.size w w) := Lib.hid (Below.refl _ _)
  have K1 := Lib.hid (fun w2 h => code_any sa m c f w2 hm (HF.out w2 h))
  have K2 := Lib.hid (fun w2 h => check_any sa m c f w2 hm (HF.out w2 h))
  have K3 := Lib.hid (fun w2 h => Print_bad sa m c f w2 hm (HF.out w2 h) hb)
  have K4 := Lib.hid (fun w2 h => Fractions_bad sa m c f w2 hm (HF.out w2 h) hb)
  have K5 := Lib.hid (fun w2 h => Run_code sa m c f ca cn cc F w2 hm (HF.out w2 h) hb)
  clear hF hZ hL hb
  obtain ⟨e, he⟩ : ∃ e, e = codeF f m := ⟨_, rfl⟩
  rw [← he] at hr HB0 K1 K2 K3 K4 K5
  clear he
  have ne1 : (e == 0) = false := beq_eq_false_iff_ne.2 HB0.out
  have ne2 : (e != 0) = true := by rw [bne, ne1]; rfl
  obtain ⟨ev, hev⟩ : ∃ v, v = errV e := ⟨_, rfl⟩
  have HEV := Lib.hid hev
  have KE : Hid (∀ w2, Below w.heap.size w w2 → Calls Tryd.prog 7 #[ev, .int .i64 e] w2 fun en w' => en = .returned (.bool true) ∧ Below w2.heap.size w2 w') := Lib.hid (fun w2 h => by
    have := same_any e e w2 (HL.out.keep h) (by omega) (by omega)
    rw [beq_self_eq_true, ← HEV.out] at this
    exact this)
  rw [← hev] at K2 K3 K4 K5
  clear hev hm
  go_enter Tryd.func4, Tryd.ntmps4
  go_wp2_with fail
  refine (K1.out w HB.out).mono ?_
  rintro e1 w1 ⟨rfl, hb1⟩
  have HB := Lib.hid (HB.out.trans (hb1.mono HB.out.size))
  clear hb1
  go_wp2_with fail
  refine (K2.out w1 HB.out).mono ?_
  rintro e2 w2 ⟨rfl, hb2⟩
  have HB := Lib.hid (HB.out.trans (hb2.mono HB.out.size))
  clear hb2
  go_wp2_with fail
  refine (KE.out w2 HB.out).mono ?_
  rintro e3 w3 ⟨rfl, hb3⟩
  have HB := Lib.hid (HB.out.trans (hb3.mono HB.out.size))
  clear hb3
  go_wp2_with fail
  refine (K3.out w3 HB.out).mono ?_
  rintro e4 w4 ⟨rfl, hb4⟩
  have HB := Lib.hid (HB.out.trans (hb4.mono HB.out.size))
  clear hb4
  go_wp2_with fail
  refine (KE.out w4 HB.out).mono ?_
  rintro e5 w5 ⟨rfl, hb5⟩
  have HB := Lib.hid (HB.out.trans (hb5.mono HB.out.size))
  clear hb5
  go_wp2_with fail
  refine (K4.out w5 HB.out).mono ?_
  rintro e6 w6 ⟨rfl, hb6⟩
  have HB := Lib.hid (HB.out.trans (hb6.mono HB.out.size))
  clear hb6
  go_wp2_with fail
  refine (KE.out w6 HB.out).mono ?_
  rintro e7 w7 ⟨rfl, hb7⟩
  have HB := Lib.hid (HB.out.trans (hb7.mono HB.out.size))
  clear hb7
  go_wp2_with fail
  refine (K5.out w7 HB.out).mono ?_
  rintro e8 w8 ⟨rfl, hb8⟩
  have HB := Lib.hid (HB.out.trans (hb8.mono HB.out.size))
  clear hb8
  go_wp2_with fail
  refine (KE.out w8 HB.out).mono ?_
  rintro e9 w9 ⟨rfl, hb9⟩
  have HB := Lib.hid (HB.out.trans (hb9.mono HB.out.size))
  clear hb9
  go_wp2_with fail
  go_ret
  exact ⟨by simp, HB.out⟩
set_option maxHeartbeats 8000000 in
set_option maxRecDepth 1000000 in
theorem counterRuns_ok (sa : Option Addr) (m c : Nat) (f : Nat → Nat → Int) (ca : Option Addr) (cn cc : Nat) (zs : List Int) (F : Int) (w : World) (hm : m ≤ 9223372036854775807) (hF : Mem.Rows w sa m 4 (fun i j => .int .i64 (f i j))) (hZ : Ints.Is w ca cn zs) (hL : Tld.Laid w) (hok : CodeOk f m) :
    Calls Tryd.prog 4 #[.slice sa m c, .slice ca cn cc, .int .i64 F] w fun e w' => e = .returned (.bool true) ∧ Below w.heap.size w w' := by
  obtain ⟨o, hoe, hrun, hplay⟩ := bothRun sa m c f ca cn cc zs F w hF hok hZ
  have hnl : num f m + m ≤ 1000 := by have := num_le f m; have := hok.2.1; omega
  have HF : Hid (∀ w2, Below w.heap.size w w2 → Mem.Rows w2 sa m 4 (fun i j => .int .i64 (f i j))) := Lib.hid (fun w2 h => hF.below h (Nat.le_refl _))
  have HL := Lib.hid hL
  have HB : Hid (Below w.heap.size w w) := Lib.hid (Below.refl _ _)
  have K1 := Lib.hid (fun w2 h => code_any sa m c f w2 hm (HF.out w2 h))
  have K2 := Lib.hid (fun w2 h => check_any sa m c f w2 hm (HF.out w2 h))
  have K3 := Lib.hid (fun w2 h => Print_ok sa m c f w2 (HF.out w2 h) hok)
  have K4 := Lib.hid (fun w2 h => Fractions_ok sa m c f w2 (HF.out w2 h) hok)
  have K5 := Lib.hid (fun w2 h => refPrint sa m c f w2 (HF.out w2 h) hok)
  have K6 := Lib.hid (fun w2 h => refFractions sa m c f w2 (HF.out w2 h) hok)
  rw [codeF_ok hok] at K1 K2
  rw [errV_zero rfl] at K2
  have HRUN := Lib.hid hrun
  have HPLAY := Lib.hid hplay
  have KE : Hid (∀ w2, Below w.heap.size w w2 → Calls Tryd.prog 7 #[.nilIface, .int .i64 0] w2 fun en w' => en = .returned (.bool true) ∧ Below w2.heap.size w2 w') := Lib.hid (fun w2 h => by
    have := same_any 0 0 w2 (HL.out.keep h) (by omega) (by omega)
    rw [beq_self_eq_true, errV_zero rfl] at this
    exact this)
  have KO : Hid (∀ w2, Below w.heap.size w w2 → Calls Tryd.prog 7 #[errV o.2.2.2, .int .i64 o.2.2.2] w2 fun en w' => en = .returned (.bool true) ∧ Below w2.heap.size w2 w') := Lib.hid (fun w2 h => by
    have := same_any o.2.2.2 o.2.2.2 w2 (HL.out.keep h) (by omega) (by omega)
    rw [beq_self_eq_true] at this
    exact this)
  have HNL := Lib.hid hnl
  clear hF hZ hL hrun hplay hm hoe hnl
  generalize num f m + m = nf at *
  generalize textT f m = tx at *
  generalize allF f m = af at *
  obtain ⟨oc, on, oa, oe⟩ := o
  dsimp only at KO
  go_enter Tryd.func4, Tryd.ntmps4
  go_wp2_with fail
  refine (K1.out w HB.out).mono ?_
  rintro e1 w1 ⟨rfl, hb1⟩
  have HB := Lib.hid (HB.out.trans (hb1.mono HB.out.size))
  clear hb1
  go_wp2_with fail
  refine (K2.out w1 HB.out).mono ?_
  rintro e2 w2 ⟨rfl, hb2⟩
  have HB := Lib.hid (HB.out.trans (hb2.mono HB.out.size))
  clear hb2
  go_wp2_with fail
  refine (KE.out w2 HB.out).mono ?_
  rintro e3 w3 ⟨rfl, hb3⟩
  have HB := Lib.hid (HB.out.trans (hb3.mono HB.out.size))
  clear hb3
  go_wp2_with fail
  refine (K3.out w3 HB.out).mono ?_
  rintro e4 w4 ⟨rfl, hb4⟩
  have HB := Lib.hid (HB.out.trans (hb4.mono HB.out.size))
  clear hb4
  go_wp2_with fail
  refine (KE.out w4 HB.out).mono ?_
  rintro e5 w5 ⟨rfl, hb5⟩
  have HB := Lib.hid (HB.out.trans (hb5.mono HB.out.size))
  clear hb5
  go_wp2_with fail
  refine (K4.out w5 HB.out).mono ?_
  rintro e6 w6 ⟨⟨v1, rfl, ho1⟩, hb6⟩
  have HB := Lib.hid (HB.out.trans (hb6.mono HB.out.size))
  clear hb6
  obtain ⟨f1, f2, rfl⟩ := own_slice ho1
  have HO1 := Lib.hid ho1
  clear ho1
  go_wp2_with fail
  refine (KE.out w6 HB.out).mono ?_
  rintro e7 w7 ⟨rfl, hb7⟩
  have HO1 := Lib.hid (own_stays HO1.out hb7)
  have HB := Lib.hid (HB.out.trans (hb7.mono HB.out.size))
  clear hb7
  go_wp2_with fail
  refine (K5.out w7 HB.out).mono ?_
  rintro e8 w8 ⟨rfl, hb8⟩
  have HO1 := Lib.hid (own_stays HO1.out hb8)
  have HB := Lib.hid (HB.out.trans (hb8.mono HB.out.size))
  clear hb8
  go_wp2_with fail
  refine (K6.out w8 HB.out).mono ?_
  rintro e9 w9 ⟨⟨v2, rfl, ho2⟩, hb9⟩
  have HO1 := Lib.hid (own_stays HO1.out hb9)
  have HB := Lib.hid (HB.out.trans (hb9.mono HB.out.size))
  clear hb9
  obtain ⟨g1, g2, rfl⟩ := own_slice ho2
  have HO2 := Lib.hid ho2
  clear ho2
  go_wp2_with fail
  refine (fsame_any f1 g1 nf f2 g2 (fz af) w9 HNL.out (rows_own HO1.out) (rows_own HO2.out)).mono ?_
  rintro e10 w10 ⟨rfl, hb10⟩
  have HB := Lib.hid (HB.out.trans (hb10.mono HB.out.size))
  clear hb10
  clear HO1 HO2
  go_wp2_with fail
  refine (HRUN.out w10 HB.out).mono ?_
  rintro e11 w11 ⟨⟨r1, r2, r3, rfl, hi1⟩, hb11⟩
  have HB := Lib.hid (HB.out.trans (hb11.mono HB.out.size))
  clear hb11
  have HI1 := Lib.hid hi1
  clear hi1
  go_wp2_with fail
  refine (HPLAY.out w11 HB.out).mono ?_
  rintro e12 w12 ⟨⟨p1, p2, p3, rfl, hi2⟩, hb12⟩
  have HI1 := Lib.hid (HI1.out.keep hb12)
  have HB := Lib.hid (HB.out.trans (hb12.mono HB.out.size))
  clear hb12
  have HI2 := Lib.hid hi2
  clear hi2
  dsimp only at HI1 HI2
  go_wp2_with fail
  refine (KO.out w12 HB.out).mono ?_
  rintro e13 w13 ⟨rfl, hb13⟩
  have HI1 := Lib.hid (HI1.out.keep hb13)
  have HI2 := Lib.hid (HI2.out.keep hb13)
  have HB := Lib.hid (HB.out.trans (hb13.mono HB.out.size))
  clear hb13
  go_wp2_with fail
  refine (Ints.ints_any r1 p1 r2 p2 r3 p3 oc oc w13 HI1.out HI2.out).mono ?_
  rintro e14 w14 ⟨rfl, hb14⟩
  have HB := Lib.hid (HB.out.trans (hb14.mono HB.out.size))
  clear hb14
  rw [decide_eq_true (rfl : oc = oc)]
  go_wp2_with fail
  go_ret
  exact ⟨by simp, HB.out⟩
theorem counterRuns_any (sa : Option Addr) (m c : Nat) (f : Nat → Nat → Int) (ca : Option Addr) (cn cc : Nat) (zs : List Int) (F : Int) (w : World) (hm : m ≤ 9223372036854775807) (hF : Mem.Rows w sa m 4 (fun i j => .int .i64 (f i j))) (hZ : Ints.Is w ca cn zs) (hL : Tld.Laid w) :
    Calls Tryd.prog 4 #[.slice sa m c, .slice ca cn cc, .int .i64 F] w fun e w' => e = .returned (.bool true) ∧ Below w.heap.size w w' := by
  by_cases h : codeF f m = 0
  · exact counterRuns_ok sa m c f ca cn cc zs F w hm hF hZ hL (codeF_zero h)
  · exact counterRuns_bad sa m c f ca cn cc zs F w hm hF hZ hL h
end Cr
end Go.Proofs.YtfhhnajnanlmgaaDoor
