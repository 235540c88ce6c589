/- THE LAW ChipsReduce: its walk, out of its callees' contracts. Printed by gens/chreduce.py. -/
import Derived.Test.YtjikildiblchpaaDoorCrM
import Derived.Test.YtjikildiblchpaaDoorSame
import Derived.Test.YtjikildiblchpaaDoorRfF
import Derived.Deep.DeepCutAuto
namespace Go.Proofs.YtjikildiblchpaaDoor
set_option linter.unusedSimpArgs false
set_option linter.unusedVariables false
open Go.RowKit Go.Lib
namespace Ch
open Tld Mem Rt

theorem gfault_small {P : Int} {m : Nat} {f : Nat → Nat → Int} : -1000 ≤ gfault P m f ∧ gfault P m f ≤ 1000 := by
  rcases gfault_cases (P := P) (m := m) (f := f) with h | h | h | h <;> rw [h] <;> decide
theorem dfault_small {p : Nat} {zs : List Int} : -1000 ≤ dfault p zs ∧ dfault p zs ≤ 1000 := by
  unfold dfault
  split
  · decide
  · split <;> decide
theorem lchk_one {p : Nat} {zs : List Int} : lchk p [zs] = dfault p zs := by
  unfold lchk lchk
  split
  · rfl
  · next h => exact (Classical.not_not.1 h).symm
theorem lchk_two {p : Nat} {zs ys : List Int} (h : dfault p zs = 0) : lchk p [zs, ys] = dfault p ys := by
  unfold lchk
  rw [if_neg (fun x => x h), lchk_one]
theorem lchk_fst {p : Nat} {zs ys : List Int} (h : dfault p zs ≠ 0) : lchk p [zs, ys] = dfault p zs := by
  unfold lchk
  rw [if_pos h]

set_option maxHeartbeats 16000000 in
set_option maxRecDepth 1000000 in
theorem chipsReduce_any (P at' times : Int) (ea : Option Addr) (m ec : Nat) (f : Nat → Nat → Int) (da : Option Addr) (dn dc : Nat) (zs : List Int) (oa : Option Addr) (on oc : Nat) (ys : List Int) (w : World) (hL : Laid w) (hE : Mem.Rows w ea m 3 (fun i j => .int .i64 (f i j))) (hm : m ≤ 9223372036854775807) (hD : Ints.Is w da dn zs) (hO : Ints.Is w oa on ys) :
    Calls Tryd.prog 5 #[.agg #[.int .i64 P, .slice ea m ec], .slice da dn dc, .slice oa on oc, .int .i64 at', .int .i64 times] w fun e w' => e = .returned (.bool true) ∧ Below w.heap.size w w' := by
  have HE := Lib.hid hE
  have HD := Lib.hid hD
  have HO := Lib.hid hO
  have HDL := Lib.hid hD.len
  have HOL := Lib.hid hO.len
  clear hE hD hO
  go_enter Tryd.func5, Tryd.ntmps5
  go_upto_region 1 with fail
  have hR : Row (w.alloc (.cells #[.int .i64 P, .slice ea m ec] 24)) w.heap.size 24 [.int .i64 P, .slice ea m ec] := row_alloc w _ _
  have hb : Below w.heap.size w (w.alloc (.cells #[.int .i64 P, .slice ea m ec] 24)) := (Below.refl _ _).alloc (Nat.le_refl _) _
  have HG := Lib.hid hR
  have HB := Lib.hid hb
  have HL := Lib.hid (hL.keep hb)
  clear hR hb hL
  generalize w.alloc (.cells #[.int .i64 P, .slice ea m ec] 24) = w1 at *
  have l1 := row_range HG.out
  go_wp2_with (refine wpList_load_mid rfl 24 _ rfl w.heap.size 0 rfl _ _ l1 Tryd.underlying24 rfl infoGraph ?_)
  clear l1
  refine (fault_any P ea m ec f w1 (rows_keep HE.out HB.out) hm).mono ?_
  rintro e1 w11 ⟨rfl, hb⟩
  have HG := Lib.hid (HG.out.keep hb HG.out.lt)
  have HL := Lib.hid (HL.out.keep hb)
  have HB := Lib.hid (HB.out.trans (hb.mono HB.out.size))
  clear hb
  by_cases hg : gfault P m f = 0
  rotate_left
  · --{BAD
    have HC1 : Hid (chfault P m f [zs] = gfault P m f) := chfault_g hg
    have HC2 : Hid (chfault P m f [zs, ys] = gfault P m f) := chfault_g hg
    have HZR : Hid (-1000 ≤ gfault P m f ∧ gfault P m f ≤ 1000) := gfault_small
    obtain ⟨z, hz⟩ : ∃ z, z = gfault P m f := ⟨_, rfl⟩
    have HZE := Lib.hid hz
    rw [← hz] at HC1 HC2 HZR hg ⊢
    have HZN := Lib.hid hg
    clear hz hg
    have l1 := row_range HG.out
    go_wp2_with (refine wpList_load_mid rfl 24 _ rfl w.heap.size 0 rfl _ _ l1 Tryd.underlying24 rfl infoGraph ?_)
    clear l1
    refine (genusP_any P ea m ec f w11 (rows_keep HE.out HB.out) hm).mono ?_
    rintro e1 w12 ⟨⟨hf, rfl⟩ | ⟨hf, _⟩, hb⟩
    rotate_left
    · exact absurd (HZE.out.trans hf) HZN.out
    have HG := Lib.hid (HG.out.keep hb HG.out.lt)
    have HL := Lib.hid (HL.out.keep hb)
    have HB := Lib.hid (HB.out.trans (hb.mono HB.out.size))
    clear hb hf
    rw [← HZE.out]
    go_wp2_with fail
    refine (Tld.same_self z w12 HL.out HZR.out).mono ?_
    rintro e1 w13 ⟨rfl, hb⟩
    have HG := Lib.hid (HG.out.keep hb HG.out.lt)
    have HL := Lib.hid (HL.out.keep hb)
    have HB := Lib.hid (HB.out.trans (hb.mono HB.out.size))
    clear hb
    have l1 := row_range HG.out
    go_wp2_with (refine wpList_load_mid rfl 24 _ rfl w.heap.size 0 rfl _ _ l1 Tryd.underlying24 rfl infoGraph ?_)
    clear l1
    refine (canP_any P ea m ec f w13 (rows_keep HE.out HB.out) hm).mono ?_
    rintro e1 w14 ⟨⟨hf, rfl⟩ | ⟨hf, _⟩, hb⟩
    rotate_left
    · exact absurd (HZE.out.trans hf) HZN.out
    have HG := Lib.hid (HG.out.keep hb HG.out.lt)
    have HL := Lib.hid (HL.out.keep hb)
    have HB := Lib.hid (HB.out.trans (hb.mono HB.out.size))
    clear hb hf
    rw [← HZE.out]
    go_wp2_with fail
    refine (Tld.same_self z w14 HL.out HZR.out).mono ?_
    rintro e1 w15 ⟨rfl, hb⟩
    have HG := Lib.hid (HG.out.keep hb HG.out.lt)
    have HL := Lib.hid (HL.out.keep hb)
    have HB := Lib.hid (HB.out.trans (hb.mono HB.out.size))
    clear hb
    have q1 : (z == 0) = false := by rw [beq_eq_false_iff_ne]; exact HZN.out
    go_upto_region 17 with fail
    go_cut [20] (fun v wx => v = .bool (decide (at' < 0 ∨ P ≤ at')) ∧ wx = w15)
    case first =>
      have g0 := HG.out.cell 0
      dsimp only [List.getElem?_cons_zero] at g0
      by_cases ha1 : at' < 0
      · go_wp2_with fail
        go_meet
        case rel => exact ⟨congrArg Value.bool (decide_eq_true (.inl ha1)).symm, by first | rfl | trivial⟩
      · by_cases ha2 : P ≤ at'
        · go_wp2_with fail
          go_meet
          case rel => exact ⟨congrArg Value.bool (decide_eq_true (.inr ha2)).symm, by first | rfl | trivial⟩
        · go_wp2_with fail
          go_meet
          case rel => exact ⟨congrArg Value.bool (decide_eq_false (by omega)).symm, by first | rfl | trivial⟩
    case rest =>
    obtain ⟨rfl, rfl⟩ := hcut
    generalize decide (at' < 0 ∨ P ≤ at') = bp at *
    have q1 : (z == 0) = false := by rw [beq_eq_false_iff_ne]; exact HZN.out
    have q2 : (z != 0) = true := by rw [bne_iff_ne]; exact HZN.out
    have l1 := row_range HG.out
    go_wp2_with (refine wpList_load_mid rfl 24 _ rfl w.heap.size 0 rfl _ _ l1 Tryd.underlying24 rfl infoGraph ?_)
    clear l1
    refine (fireP_any P at' times ea m ec f da dn dc zs wc (rows_keep HE.out HB.out) hm (HD.out.keep HB.out)).mono ?_
    rintro e1 w16 ⟨⟨hf, rfl⟩ | ⟨hf, _⟩ | ⟨hf, _⟩, hb⟩
    rotate_left
    · exact absurd (HC1.out.symm.trans hf) HZN.out
    · exact absurd (HC1.out.symm.trans hf) HZN.out
    have HG := Lib.hid (HG.out.keep hb HG.out.lt)
    have HL := Lib.hid (HL.out.keep hb)
    have HB := Lib.hid (HB.out.trans (hb.mono HB.out.size))
    clear hb hf
    rw [HC1.out]
    go_wp2_with fail
    refine (Tld.same_self z w16 HL.out HZR.out).mono ?_
    rintro e1 w17 ⟨rfl, hb⟩
    have HG := Lib.hid (HG.out.keep hb HG.out.lt)
    have HL := Lib.hid (HL.out.keep hb)
    have HB := Lib.hid (HB.out.trans (hb.mono HB.out.size))
    clear hb
    go_wp2_with fail
    refine (Ints.ints_any none none 0 0 0 0 [] [] w17 (Ints.Is.nil _) (Ints.Is.nil _)).mono ?_
    rintro e1 w18 ⟨rfl, hb⟩
    have HG := Lib.hid (HG.out.keep hb HG.out.lt)
    have HL := Lib.hid (HL.out.keep hb)
    have HB := Lib.hid (HB.out.trans (hb.mono HB.out.size))
    clear hb
    rw [decide_eq_true (rfl : ([] : List Int) = [])]
    have l1 := row_range HG.out
    go_wp2_with (refine wpList_load_mid rfl 24 _ rfl w.heap.size 0 rfl _ _ l1 Tryd.underlying24 rfl infoGraph ?_)
    clear l1
    refine (reducedP_any P at' ea m ec f da dn dc zs w18 (rows_keep HE.out HB.out) hm (HD.out.keep HB.out)).mono ?_
    rintro e1 w19 ⟨⟨hf, rfl⟩ | ⟨hf, _⟩ | ⟨hf, _⟩, hb⟩
    rotate_left
    · exact absurd (HC1.out.symm.trans hf) HZN.out
    · exact absurd (HC1.out.symm.trans hf) HZN.out
    have HG := Lib.hid (HG.out.keep hb HG.out.lt)
    have HL := Lib.hid (HL.out.keep hb)
    have HB := Lib.hid (HB.out.trans (hb.mono HB.out.size))
    clear hb hf
    rw [HC1.out]
    go_wp2_with fail
    refine (Tld.same_self z w19 HL.out HZR.out).mono ?_
    rintro e1 w20 ⟨rfl, hb⟩
    have HG := Lib.hid (HG.out.keep hb HG.out.lt)
    have HL := Lib.hid (HL.out.keep hb)
    have HB := Lib.hid (HB.out.trans (hb.mono HB.out.size))
    clear hb
    go_wp2_with fail
    refine (Ints.ints_any none none 0 0 0 0 [] [] w20 (Ints.Is.nil _) (Ints.Is.nil _)).mono ?_
    rintro e1 w21 ⟨rfl, hb⟩
    have HG := Lib.hid (HG.out.keep hb HG.out.lt)
    have HL := Lib.hid (HL.out.keep hb)
    have HB := Lib.hid (HB.out.trans (hb.mono HB.out.size))
    clear hb
    rw [decide_eq_true (rfl : ([] : List Int) = [])]
    have l1 := row_range HG.out
    go_wp2_with (refine wpList_load_mid rfl 24 _ rfl w.heap.size 0 rfl _ _ l1 Tryd.underlying24 rfl infoGraph ?_)
    clear l1
    refine (sameP_any P ea m ec f da dn dc zs oa on oc ys w21 (rows_keep HE.out HB.out) hm (HD.out.keep HB.out) (HO.out.keep HB.out)).mono ?_
    rintro e1 w22 ⟨⟨hf, rfl⟩ | ⟨hf, _⟩, hb⟩
    rotate_left
    · exact absurd (HC2.out.symm.trans hf) HZN.out
    have HG := Lib.hid (HG.out.keep hb HG.out.lt)
    have HL := Lib.hid (HL.out.keep hb)
    have HB := Lib.hid (HB.out.trans (hb.mono HB.out.size))
    clear hb hf
    rw [HC2.out]
    go_wp2_with fail
    refine (Tld.same_self z w22 HL.out HZR.out).mono ?_
    rintro e1 w23 ⟨rfl, hb⟩
    have HG := Lib.hid (HG.out.keep hb HG.out.lt)
    have HL := Lib.hid (HL.out.keep hb)
    have HB := Lib.hid (HB.out.trans (hb.mono HB.out.size))
    clear hb
    go_wp2_with fail
    go_ret
    exact ⟨rfl, HB.out⟩
  obtain ⟨p, rfl, hok⟩ := gfault_zero hg
  rw [hg]
  have HGF := Lib.hid hg
  have HOK := Lib.hid hok
  have hp10 := hok.p10
  have HP1 : Hid (p ≤ maxLen) := by unfold maxLen; show _ ≤ _; omega
  clear hg hok
  have l1 := row_range HG.out
  go_wp2_with (refine wpList_load_mid rfl 24 _ rfl w.heap.size 0 rfl _ _ l1 Tryd.underlying24 rfl infoGraph ?_)
  clear l1
  refine (genusP_any p ea m ec f w11 (rows_keep HE.out HB.out) hm).mono ?_
  rintro e1 w24 ⟨⟨hf, rfl⟩ | ⟨hf, rfl⟩, hb⟩
  · exact absurd HGF.out hf
  have HG := Lib.hid (HG.out.keep hb HG.out.lt)
  have HL := Lib.hid (HL.out.keep hb)
  have HB := Lib.hid (HB.out.trans (hb.mono HB.out.size))
  clear hb hf
  rw [Int.toNat_natCast]
  obtain ⟨gz, hgz⟩ : ∃ z, z = genZ p m f := ⟨_, rfl⟩
  have HGZ := Lib.hid hgz
  rw [← hgz]
  clear hgz
  go_wp2_with fail
  refine (Tld.same_nil w24 HL.out).mono ?_
  rintro e1 w25 ⟨rfl, hb⟩
  have HG := Lib.hid (HG.out.keep hb HG.out.lt)
  have HL := Lib.hid (HL.out.keep hb)
  have HB := Lib.hid (HB.out.trans (hb.mono HB.out.size))
  clear hb
  have l1 := row_range HG.out
  go_wp2_with (refine wpList_load_mid rfl 24 _ rfl w.heap.size 0 rfl _ _ l1 Tryd.underlying24 rfl infoGraph ?_)
  clear l1
  refine (canP_any p ea m ec f w25 (rows_keep HE.out HB.out) hm).mono ?_
  rintro e1 w26 ⟨⟨hf, rfl⟩ | ⟨hf, p', ca, cc, hp', rfl, hC⟩, hb⟩
  · exact absurd HGF.out hf
  obtain rfl : p = p' := by omega
  have HC := Lib.hid hC
  have HG := Lib.hid (HG.out.keep hb HG.out.lt)
  have HL := Lib.hid (HL.out.keep hb)
  have HB := Lib.hid (HB.out.trans (hb.mono HB.out.size))
  clear hb hf hp' hC
  go_wp2_with fail
  refine (Tld.same_nil w26 HL.out).mono ?_
  rintro e1 w27 ⟨rfl, hb⟩
  have HG := Lib.hid (HG.out.keep hb HG.out.lt)
  have HL := Lib.hid (HL.out.keep hb)
  have HC := Lib.hid (HC.out.keep hb)
  have HB := Lib.hid (HB.out.trans (hb.mono HB.out.size))
  clear hb
  have l1 := row_range HG.out
  go_wp2_with (refine wpList_load_mid rfl 24 _ rfl w.heap.size 0 rfl _ _ l1 Tryd.underlying24 rfl infoGraph ?_)
  clear l1
  refine (rgenus_any p ea m ec f w27 (rows_keep HE.out HB.out) HOK.out).mono ?_
  rintro e1 w28 ⟨rfl, hb⟩
  have HG := Lib.hid (HG.out.keep hb HG.out.lt)
  have HL := Lib.hid (HL.out.keep hb)
  have HC := Lib.hid (HC.out.keep hb)
  have HB := Lib.hid (HB.out.trans (hb.mono HB.out.size))
  clear hb
  rw [← HGZ.out]
  clear HGZ
  have l1 := row_range HG.out
  go_wp2_with (refine wpList_load_mid rfl 24 _ rfl w.heap.size 0 rfl _ _ l1 Tryd.underlying24 rfl infoGraph ?_)
  clear l1
  refine (rcan_any p ea m ec f w28 (rows_keep HE.out HB.out) HOK.out).mono ?_
  rintro e1 w29 ⟨⟨ca2, cc2, rfl, hC2⟩, hb⟩
  have HC2 := Lib.hid hC2
  have HG := Lib.hid (HG.out.keep hb HG.out.lt)
  have HL := Lib.hid (HL.out.keep hb)
  have HC := Lib.hid (HC.out.keep hb)
  have HB := Lib.hid (HB.out.trans (hb.mono HB.out.size))
  clear hb hC2
  go_wp2_with fail
  refine (Ints.ints_any _ _ p p cc cc2 (canL p m f p) (canL p m f p) w29 HC.out HC2.out).mono ?_
  rintro e1 w30 ⟨rfl, hb⟩
  have HG := Lib.hid (HG.out.keep hb HG.out.lt)
  have HL := Lib.hid (HL.out.keep hb)
  have HB := Lib.hid (HB.out.trans (hb.mono HB.out.size))
  clear hb HC HC2
  rw [decide_eq_true rfl]
  have q3 : (gz != gz) = false := bne_self_eq_false _
  have l1 := row_range HG.out
  go_wp2_with (refine wpList_load_mid rfl 24 _ rfl w.heap.size 0 rfl _ _ l1 Tryd.underlying24 rfl infoGraph ?_)
  clear l1
  refine (rdiv_any p ea m ec da dn dc zs w30 (HD.out.keep HB.out) hp10).mono ?_
  rintro e1 w31 ⟨rfl, hb⟩
  have HG := Lib.hid (HG.out.keep hb HG.out.lt)
  have HL := Lib.hid (HL.out.keep hb)
  have HB := Lib.hid (HB.out.trans (hb.mono HB.out.size))
  clear hb
  clear q3
  by_cases hd : dfault p zs = 0
  rotate_left
  · --{UNFIT
    have HC1 : Hid (chfault (p : Int) m f [zs] = dfault p zs) := by show _ = _; rw [chfault_l HGF.out, Int.toNat_natCast, lchk_one]
    have HC2 : Hid (chfault (p : Int) m f [zs, ys] = dfault p zs) := by show _ = _; rw [chfault_l HGF.out, Int.toNat_natCast, lchk_fst hd]
    have HZR : Hid (-1000 ≤ dfault p zs ∧ dfault p zs ≤ 1000) := dfault_small
    generalize dfault p zs = z at *
    have HZN := Lib.hid hd
    clear hd
    go_upto_region 17 with fail
    go_cut [20] (fun v wx => v = .bool (decide (at' < 0 ∨ (p : Int) ≤ at')) ∧ wx = w31)
    case first =>
      have g0 := HG.out.cell 0
      dsimp only [List.getElem?_cons_zero] at g0
      by_cases ha1 : at' < 0
      · go_wp2_with fail
        go_meet
        case rel => exact ⟨congrArg Value.bool (decide_eq_true (.inl ha1)).symm, by first | rfl | trivial⟩
      · by_cases ha2 : (p : Int) ≤ at'
        · go_wp2_with fail
          go_meet
          case rel => exact ⟨congrArg Value.bool (decide_eq_true (.inr ha2)).symm, by first | rfl | trivial⟩
        · go_wp2_with fail
          go_meet
          case rel => exact ⟨congrArg Value.bool (decide_eq_false (by omega)).symm, by first | rfl | trivial⟩
    case rest =>
    obtain ⟨rfl, rfl⟩ := hcut
    generalize decide (at' < 0 ∨ (p : Int) ≤ at') = bp at *
    have q1 : (z == 0) = false := by rw [beq_eq_false_iff_ne]; exact HZN.out
    have q2 : (z != 0) = true := by rw [bne_iff_ne]; exact HZN.out
    have l1 := row_range HG.out
    go_wp2_with (refine wpList_load_mid rfl 24 _ rfl w.heap.size 0 rfl _ _ l1 Tryd.underlying24 rfl infoGraph ?_)
    clear l1
    refine (fireP_any (p : Int) at' times ea m ec f da dn dc zs wc (rows_keep HE.out HB.out) hm (HD.out.keep HB.out)).mono ?_
    rintro e1 w32 ⟨⟨hf, rfl⟩ | ⟨hf, _⟩ | ⟨hf, _⟩, hb⟩
    rotate_left
    · exact absurd (HC1.out.symm.trans hf) HZN.out
    · exact absurd (HC1.out.symm.trans hf) HZN.out
    have HG := Lib.hid (HG.out.keep hb HG.out.lt)
    have HL := Lib.hid (HL.out.keep hb)
    have HB := Lib.hid (HB.out.trans (hb.mono HB.out.size))
    clear hb hf
    rw [HC1.out]
    go_wp2_with fail
    refine (Tld.same_self z w32 HL.out HZR.out).mono ?_
    rintro e1 w33 ⟨rfl, hb⟩
    have HG := Lib.hid (HG.out.keep hb HG.out.lt)
    have HL := Lib.hid (HL.out.keep hb)
    have HB := Lib.hid (HB.out.trans (hb.mono HB.out.size))
    clear hb
    go_wp2_with fail
    refine (Ints.ints_any none none 0 0 0 0 [] [] w33 (Ints.Is.nil _) (Ints.Is.nil _)).mono ?_
    rintro e1 w34 ⟨rfl, hb⟩
    have HG := Lib.hid (HG.out.keep hb HG.out.lt)
    have HL := Lib.hid (HL.out.keep hb)
    have HB := Lib.hid (HB.out.trans (hb.mono HB.out.size))
    clear hb
    rw [decide_eq_true (rfl : ([] : List Int) = [])]
    have l1 := row_range HG.out
    go_wp2_with (refine wpList_load_mid rfl 24 _ rfl w.heap.size 0 rfl _ _ l1 Tryd.underlying24 rfl infoGraph ?_)
    clear l1
    refine (reducedP_any (p : Int) at' ea m ec f da dn dc zs w34 (rows_keep HE.out HB.out) hm (HD.out.keep HB.out)).mono ?_
    rintro e1 w35 ⟨⟨hf, rfl⟩ | ⟨hf, _⟩ | ⟨hf, _⟩, hb⟩
    rotate_left
    · exact absurd (HC1.out.symm.trans hf) HZN.out
    · exact absurd (HC1.out.symm.trans hf) HZN.out
    have HG := Lib.hid (HG.out.keep hb HG.out.lt)
    have HL := Lib.hid (HL.out.keep hb)
    have HB := Lib.hid (HB.out.trans (hb.mono HB.out.size))
    clear hb hf
    rw [HC1.out]
    go_wp2_with fail
    refine (Tld.same_self z w35 HL.out HZR.out).mono ?_
    rintro e1 w36 ⟨rfl, hb⟩
    have HG := Lib.hid (HG.out.keep hb HG.out.lt)
    have HL := Lib.hid (HL.out.keep hb)
    have HB := Lib.hid (HB.out.trans (hb.mono HB.out.size))
    clear hb
    go_wp2_with fail
    refine (Ints.ints_any none none 0 0 0 0 [] [] w36 (Ints.Is.nil _) (Ints.Is.nil _)).mono ?_
    rintro e1 w37 ⟨rfl, hb⟩
    have HG := Lib.hid (HG.out.keep hb HG.out.lt)
    have HL := Lib.hid (HL.out.keep hb)
    have HB := Lib.hid (HB.out.trans (hb.mono HB.out.size))
    clear hb
    rw [decide_eq_true (rfl : ([] : List Int) = [])]
    have l1 := row_range HG.out
    go_wp2_with (refine wpList_load_mid rfl 24 _ rfl w.heap.size 0 rfl _ _ l1 Tryd.underlying24 rfl infoGraph ?_)
    clear l1
    refine (sameP_any (p : Int) ea m ec f da dn dc zs oa on oc ys w37 (rows_keep HE.out HB.out) hm (HD.out.keep HB.out) (HO.out.keep HB.out)).mono ?_
    rintro e1 w38 ⟨⟨hf, rfl⟩ | ⟨hf, _⟩, hb⟩
    rotate_left
    · exact absurd (HC2.out.symm.trans hf) HZN.out
    have HG := Lib.hid (HG.out.keep hb HG.out.lt)
    have HL := Lib.hid (HL.out.keep hb)
    have HB := Lib.hid (HB.out.trans (hb.mono HB.out.size))
    clear hb hf
    rw [HC2.out]
    go_wp2_with fail
    refine (Tld.same_self z w38 HL.out HZR.out).mono ?_
    rintro e1 w39 ⟨rfl, hb⟩
    have HG := Lib.hid (HG.out.keep hb HG.out.lt)
    have HL := Lib.hid (HL.out.keep hb)
    have HB := Lib.hid (HB.out.trans (hb.mono HB.out.size))
    clear hb
    go_wp2_with fail
    go_ret
    exact ⟨rfl, HB.out⟩
  have HCF : Hid (chfault (p : Int) m f [zs] = 0) := ch_one HGF.out hd
  have HDF := Lib.hid hd
  rw [hd]
  obtain ⟨hzl, hz⟩ := dfault_zero hd
  have hdp : dn = p := by rw [← HDL.out]; exact hzl
  subst hdp
  have HZ := Lib.hid hz
  clear hd hzl hz
  go_upto_region 17 with fail
  go_cut [20] (fun v wx => v = .bool (decide (at' < 0 ∨ (dn : Int) ≤ at')) ∧ wx = w31)
  case first =>
    have g0 := HG.out.cell 0
    dsimp only [List.getElem?_cons_zero] at g0
    by_cases ha1 : at' < 0
    · go_wp2_with fail
      go_meet
      case rel => exact ⟨congrArg Value.bool (decide_eq_true (.inl ha1)).symm, by first | rfl | trivial⟩
    · by_cases ha2 : (dn : Int) ≤ at'
      · go_wp2_with fail
        go_meet
        case rel => exact ⟨congrArg Value.bool (decide_eq_true (.inr ha2)).symm, by first | rfl | trivial⟩
      · go_wp2_with fail
        go_meet
        case rel => exact ⟨congrArg Value.bool (decide_eq_false (by omega)).symm, by first | rfl | trivial⟩
  case rest =>
  obtain ⟨rfl, rfl⟩ := hcut
  by_cases hat : at' < 0 ∨ (dn : Int) ≤ at'
  · --{NOPLACE
    rw [decide_eq_true hat]
    have HAT := Lib.hid hat
    clear hat
    by_cases ht1 : times < -1000
    · --{T1
      have l1 := row_range HG.out
      go_wp2_with (refine wpList_load_mid rfl 24 _ rfl w.heap.size 0 rfl _ _ l1 Tryd.underlying24 rfl infoGraph ?_)
      clear l1
      refine (fireP_any (dn : Int) at' times ea m ec f da dn dc zs wc (rows_keep HE.out HB.out) hm (HD.out.keep HB.out)).mono ?_
      rintro e1 w40 ⟨⟨hf, rfl⟩ | ⟨hf, _, rfl⟩ | ⟨hf, _, _, p', a', bq, cq, hp', ha', hap', _⟩, hb⟩
      · exact absurd HCF.out hf
      rotate_left
      · have := HAT.out
        omega
      have HG := Lib.hid (HG.out.keep hb HG.out.lt)
      have HL := Lib.hid (HL.out.keep hb)
      have HB := Lib.hid (HB.out.trans (hb.mono HB.out.size))
      clear hb hf
      go_wp2_with fail
      refine (Tld.same_self 1 w40 HL.out (by omega)).mono ?_
      rintro e1 w41 ⟨rfl, hb⟩
      have HG := Lib.hid (HG.out.keep hb HG.out.lt)
      have HL := Lib.hid (HL.out.keep hb)
      have HB := Lib.hid (HB.out.trans (hb.mono HB.out.size))
      clear hb
      go_wp2_with fail
      refine (Ints.ints_any none none 0 0 0 0 [] [] w41 (Ints.Is.nil _) (Ints.Is.nil _)).mono ?_
      rintro e1 w42 ⟨rfl, hb⟩
      have HG := Lib.hid (HG.out.keep hb HG.out.lt)
      have HL := Lib.hid (HL.out.keep hb)
      have HB := Lib.hid (HB.out.trans (hb.mono HB.out.size))
      clear hb
      rw [decide_eq_true (rfl : ([] : List Int) = [])]
      have l1 := row_range HG.out
      go_wp2_with (refine wpList_load_mid rfl 24 _ rfl w.heap.size 0 rfl _ _ l1 Tryd.underlying24 rfl infoGraph ?_)
      clear l1
      refine (reducedP_any (dn : Int) at' ea m ec f da dn dc zs w42 (rows_keep HE.out HB.out) hm (HD.out.keep HB.out)).mono ?_
      rintro e1 w43 ⟨⟨hf, rfl⟩ | ⟨hf, ho, rfl⟩ | ⟨hf, p', a', bq, cq, R, hp', ha', hap', _⟩, hb⟩
      · exact absurd HCF.out hf
      rotate_left
      · have := HAT.out
        omega
      have HG := Lib.hid (HG.out.keep hb HG.out.lt)
      have HL := Lib.hid (HL.out.keep hb)
      have HB := Lib.hid (HB.out.trans (hb.mono HB.out.size))
      clear hb hf ho
      go_wp2_with fail
      refine (Tld.same_self 1 w43 HL.out (by omega)).mono ?_
      rintro e1 w44 ⟨rfl, hb⟩
      have HG := Lib.hid (HG.out.keep hb HG.out.lt)
      have HL := Lib.hid (HL.out.keep hb)
      have HB := Lib.hid (HB.out.trans (hb.mono HB.out.size))
      clear hb
      go_wp2_with fail
      refine (Ints.ints_any none none 0 0 0 0 [] [] w44 (Ints.Is.nil _) (Ints.Is.nil _)).mono ?_
      rintro e1 w45 ⟨rfl, hb⟩
      have HG := Lib.hid (HG.out.keep hb HG.out.lt)
      have HL := Lib.hid (HL.out.keep hb)
      have HB := Lib.hid (HB.out.trans (hb.mono HB.out.size))
      clear hb
      rw [decide_eq_true (rfl : ([] : List Int) = [])]
      have l1 := row_range HG.out
      go_wp2_with (refine wpList_load_mid rfl 24 _ rfl w.heap.size 0 rfl _ _ l1 Tryd.underlying24 rfl infoGraph ?_)
      clear l1
      refine (rdiv_any dn ea m ec oa on oc ys w45 (HO.out.keep HB.out) hp10).mono ?_
      rintro e1 w46 ⟨rfl, hb⟩
      have HG := Lib.hid (HG.out.keep hb HG.out.lt)
      have HL := Lib.hid (HL.out.keep hb)
      have HB := Lib.hid (HB.out.trans (hb.mono HB.out.size))
      clear hb
      by_cases hy : dfault dn ys = 0
      rotate_left
      · --{OBAD
        have HC2 : Hid (chfault (dn : Int) m f [zs, ys] = dfault dn ys) := by show _ = _; rw [chfault_l HGF.out, Int.toNat_natCast, lchk_two HDF.out]
        have HZR : Hid (-1000 ≤ dfault dn ys ∧ dfault dn ys ≤ 1000) := dfault_small
        generalize dfault dn ys = z at *
        have HZN := Lib.hid hy
        have q2 : (z != 0) = true := by rw [bne_iff_ne]; exact hy
        clear hy
        have l1 := row_range HG.out
        go_wp2_with (refine wpList_load_mid rfl 24 _ rfl w.heap.size 0 rfl _ _ l1 Tryd.underlying24 rfl infoGraph ?_)
        clear l1
        refine (sameP_any (dn : Int) ea m ec f da dn dc zs oa on oc ys w46 (rows_keep HE.out HB.out) hm (HD.out.keep HB.out) (HO.out.keep HB.out)).mono ?_
        rintro e1 w47 ⟨⟨hf, rfl⟩ | ⟨hf, _⟩, hb⟩
        rotate_left
        · exact absurd (HC2.out.symm.trans hf) HZN.out
        have HG := Lib.hid (HG.out.keep hb HG.out.lt)
        have HL := Lib.hid (HL.out.keep hb)
        have HB := Lib.hid (HB.out.trans (hb.mono HB.out.size))
        clear hb hf
        rw [HC2.out]
        go_wp2_with fail
        refine (Tld.same_self z w47 HL.out HZR.out).mono ?_
        rintro e1 w48 ⟨rfl, hb⟩
        have HG := Lib.hid (HG.out.keep hb HG.out.lt)
        have HL := Lib.hid (HL.out.keep hb)
        have HB := Lib.hid (HB.out.trans (hb.mono HB.out.size))
        clear hb
        go_wp2_with fail
        go_ret
        exact ⟨rfl, HB.out⟩
      have HCD : Hid (chfault (dn : Int) m f [zs, ys] = 0) := ch_two HGF.out HDF.out hy
      obtain ⟨hyl, hyz⟩ := dfault_zero hy
      have HY := Lib.hid hyz
      rw [hy]
      have hop : on = dn := by rw [← HOL.out]; exact hyl
      subst hop
      clear hy hyl hyz
      have l1 := row_range HG.out
      go_wp2_with (refine wpList_load_mid rfl 24 _ rfl w.heap.size 0 rfl _ _ l1 Tryd.underlying24 rfl infoGraph ?_)
      clear l1
      refine (sameP_any (on : Int) ea m ec f da on dc zs oa on oc ys w46 (rows_keep HE.out HB.out) hm (HD.out.keep HB.out) (HO.out.keep HB.out)).mono ?_
      rintro e1 w49 ⟨⟨hf, rfl⟩ | ⟨hf, p', q, hp', hq, rfl⟩, hb⟩
      · exact absurd HCD.out hf
      obtain rfl : on = p' := by omega
      have HQ := Lib.hid hq
      have HG := Lib.hid (HG.out.keep hb HG.out.lt)
      have HL := Lib.hid (HL.out.keep hb)
      have HB := Lib.hid (HB.out.trans (hb.mono HB.out.size))
      clear hb hf hp' hq
      go_wp2_with fail
      refine (Tld.same_nil w49 HL.out).mono ?_
      rintro e1 w50 ⟨rfl, hb⟩
      have HG := Lib.hid (HG.out.keep hb HG.out.lt)
      have HL := Lib.hid (HL.out.keep hb)
      have HB := Lib.hid (HB.out.trans (hb.mono HB.out.size))
      clear hb
      have l1 := row_range HG.out
      go_wp2_with (refine wpList_load_mid rfl 24 _ rfl w.heap.size 0 rfl _ _ l1 Tryd.underlying24 rfl infoGraph ?_)
      clear l1
      refine (rreduced_any on 0 m ea ec f da dc zs w50 (rows_keep HE.out HB.out) HOK.out HOK.out.p1 (HD.out.keep HB.out) HZ.out).mono ?_
      rintro e1 w51 ⟨b1, c1, R1, rfl, hv1, he1, hr1, hb⟩
      have HV1 := Lib.hid (hv1.is HP1.out)
      have HE1 := Lib.hid he1
      have HR1 := Lib.hid hr1
      have HG := Lib.hid (HG.out.keep hb HG.out.lt)
      have HL := Lib.hid (HL.out.keep hb)
      have HB := Lib.hid (HB.out.trans (hb.mono HB.out.size))
      clear hb hv1 he1 hr1
      have l1 := row_range HG.out
      go_wp2_with (refine wpList_load_mid rfl 24 _ rfl w.heap.size 0 rfl _ _ l1 Tryd.underlying24 rfl infoGraph ?_)
      clear l1
      refine (rreduced_any on 0 m ea ec f oa oc ys w51 (rows_keep HE.out HB.out) HOK.out HOK.out.p1 (HO.out.keep HB.out) HY.out).mono ?_
      rintro e1 w52 ⟨b2, c2, R2, rfl, hv2, he2, hr2, hb⟩
      have HV2 := Lib.hid (hv2.is HP1.out)
      have HE2 := Lib.hid he2
      have HR2 := Lib.hid hr2
      have HG := Lib.hid (HG.out.keep hb HG.out.lt)
      have HL := Lib.hid (HL.out.keep hb)
      have HV1 := Lib.hid (HV1.out.keep hb)
      have HB := Lib.hid (HB.out.trans (hb.mono HB.out.size))
      clear hb hv2 he2 hr2
      go_wp2_with fail
      refine (Ints.ints_any _ _ on on c1 c2 (lstF on R1) (lstF on R2) w52 HV1.out HV2.out).mono ?_
      rintro e1 w53 ⟨rfl, hb⟩
      have HG := Lib.hid (HG.out.keep hb HG.out.lt)
      have HL := Lib.hid (HL.out.keep hb)
      have HB := Lib.hid (HB.out.trans (hb.mono HB.out.size))
      clear hb HV1 HV2
      have hqs : decide (lstF on R1 = lstF on R2) = q := by
        have h1 := same_iff HOK.out.p1 HE1.out HR1.out HE2.out HR2.out
        cases q
        · exact decide_eq_false fun h => Bool.noConfusion (HQ.out.2 (h1.1 h))
        · exact decide_eq_true (h1.2 (HQ.out.1 rfl))
      rw [hqs]
      have q5 : (q == q) = true := by cases q <;> rfl
      clear hqs
      go_wp2_with fail
      go_ret
      exact ⟨rfl, HB.out⟩
    by_cases ht2 : 1000 < times
    · --{T2
      have l1 := row_range HG.out
      go_wp2_with (refine wpList_load_mid rfl 24 _ rfl w.heap.size 0 rfl _ _ l1 Tryd.underlying24 rfl infoGraph ?_)
      clear l1
      refine (fireP_any (dn : Int) at' times ea m ec f da dn dc zs wc (rows_keep HE.out HB.out) hm (HD.out.keep HB.out)).mono ?_
      rintro e1 w54 ⟨⟨hf, rfl⟩ | ⟨hf, _, rfl⟩ | ⟨hf, _, _, p', a', bq, cq, hp', ha', hap', _⟩, hb⟩
      · exact absurd HCF.out hf
      rotate_left
      · have := HAT.out
        omega
      have HG := Lib.hid (HG.out.keep hb HG.out.lt)
      have HL := Lib.hid (HL.out.keep hb)
      have HB := Lib.hid (HB.out.trans (hb.mono HB.out.size))
      clear hb hf
      go_wp2_with fail
      refine (Tld.same_self 1 w54 HL.out (by omega)).mono ?_
      rintro e1 w55 ⟨rfl, hb⟩
      have HG := Lib.hid (HG.out.keep hb HG.out.lt)
      have HL := Lib.hid (HL.out.keep hb)
      have HB := Lib.hid (HB.out.trans (hb.mono HB.out.size))
      clear hb
      go_wp2_with fail
      refine (Ints.ints_any none none 0 0 0 0 [] [] w55 (Ints.Is.nil _) (Ints.Is.nil _)).mono ?_
      rintro e1 w56 ⟨rfl, hb⟩
      have HG := Lib.hid (HG.out.keep hb HG.out.lt)
      have HL := Lib.hid (HL.out.keep hb)
      have HB := Lib.hid (HB.out.trans (hb.mono HB.out.size))
      clear hb
      rw [decide_eq_true (rfl : ([] : List Int) = [])]
      have l1 := row_range HG.out
      go_wp2_with (refine wpList_load_mid rfl 24 _ rfl w.heap.size 0 rfl _ _ l1 Tryd.underlying24 rfl infoGraph ?_)
      clear l1
      refine (reducedP_any (dn : Int) at' ea m ec f da dn dc zs w56 (rows_keep HE.out HB.out) hm (HD.out.keep HB.out)).mono ?_
      rintro e1 w57 ⟨⟨hf, rfl⟩ | ⟨hf, ho, rfl⟩ | ⟨hf, p', a', bq, cq, R, hp', ha', hap', _⟩, hb⟩
      · exact absurd HCF.out hf
      rotate_left
      · have := HAT.out
        omega
      have HG := Lib.hid (HG.out.keep hb HG.out.lt)
      have HL := Lib.hid (HL.out.keep hb)
      have HB := Lib.hid (HB.out.trans (hb.mono HB.out.size))
      clear hb hf ho
      go_wp2_with fail
      refine (Tld.same_self 1 w57 HL.out (by omega)).mono ?_
      rintro e1 w58 ⟨rfl, hb⟩
      have HG := Lib.hid (HG.out.keep hb HG.out.lt)
      have HL := Lib.hid (HL.out.keep hb)
      have HB := Lib.hid (HB.out.trans (hb.mono HB.out.size))
      clear hb
      go_wp2_with fail
      refine (Ints.ints_any none none 0 0 0 0 [] [] w58 (Ints.Is.nil _) (Ints.Is.nil _)).mono ?_
      rintro e1 w59 ⟨rfl, hb⟩
      have HG := Lib.hid (HG.out.keep hb HG.out.lt)
      have HL := Lib.hid (HL.out.keep hb)
      have HB := Lib.hid (HB.out.trans (hb.mono HB.out.size))
      clear hb
      rw [decide_eq_true (rfl : ([] : List Int) = [])]
      have l1 := row_range HG.out
      go_wp2_with (refine wpList_load_mid rfl 24 _ rfl w.heap.size 0 rfl _ _ l1 Tryd.underlying24 rfl infoGraph ?_)
      clear l1
      refine (rdiv_any dn ea m ec oa on oc ys w59 (HO.out.keep HB.out) hp10).mono ?_
      rintro e1 w60 ⟨rfl, hb⟩
      have HG := Lib.hid (HG.out.keep hb HG.out.lt)
      have HL := Lib.hid (HL.out.keep hb)
      have HB := Lib.hid (HB.out.trans (hb.mono HB.out.size))
      clear hb
      by_cases hy : dfault dn ys = 0
      rotate_left
      · --{OBAD
        have HC2 : Hid (chfault (dn : Int) m f [zs, ys] = dfault dn ys) := by show _ = _; rw [chfault_l HGF.out, Int.toNat_natCast, lchk_two HDF.out]
        have HZR : Hid (-1000 ≤ dfault dn ys ∧ dfault dn ys ≤ 1000) := dfault_small
        generalize dfault dn ys = z at *
        have HZN := Lib.hid hy
        have q2 : (z != 0) = true := by rw [bne_iff_ne]; exact hy
        clear hy
        have l1 := row_range HG.out
        go_wp2_with (refine wpList_load_mid rfl 24 _ rfl w.heap.size 0 rfl _ _ l1 Tryd.underlying24 rfl infoGraph ?_)
        clear l1
        refine (sameP_any (dn : Int) ea m ec f da dn dc zs oa on oc ys w60 (rows_keep HE.out HB.out) hm (HD.out.keep HB.out) (HO.out.keep HB.out)).mono ?_
        rintro e1 w61 ⟨⟨hf, rfl⟩ | ⟨hf, _⟩, hb⟩
        rotate_left
        · exact absurd (HC2.out.symm.trans hf) HZN.out
        have HG := Lib.hid (HG.out.keep hb HG.out.lt)
        have HL := Lib.hid (HL.out.keep hb)
        have HB := Lib.hid (HB.out.trans (hb.mono HB.out.size))
        clear hb hf
        rw [HC2.out]
        go_wp2_with fail
        refine (Tld.same_self z w61 HL.out HZR.out).mono ?_
        rintro e1 w62 ⟨rfl, hb⟩
        have HG := Lib.hid (HG.out.keep hb HG.out.lt)
        have HL := Lib.hid (HL.out.keep hb)
        have HB := Lib.hid (HB.out.trans (hb.mono HB.out.size))
        clear hb
        go_wp2_with fail
        go_ret
        exact ⟨rfl, HB.out⟩
      have HCD : Hid (chfault (dn : Int) m f [zs, ys] = 0) := ch_two HGF.out HDF.out hy
      obtain ⟨hyl, hyz⟩ := dfault_zero hy
      have HY := Lib.hid hyz
      rw [hy]
      have hop : on = dn := by rw [← HOL.out]; exact hyl
      subst hop
      clear hy hyl hyz
      have l1 := row_range HG.out
      go_wp2_with (refine wpList_load_mid rfl 24 _ rfl w.heap.size 0 rfl _ _ l1 Tryd.underlying24 rfl infoGraph ?_)
      clear l1
      refine (sameP_any (on : Int) ea m ec f da on dc zs oa on oc ys w60 (rows_keep HE.out HB.out) hm (HD.out.keep HB.out) (HO.out.keep HB.out)).mono ?_
      rintro e1 w63 ⟨⟨hf, rfl⟩ | ⟨hf, p', q, hp', hq, rfl⟩, hb⟩
      · exact absurd HCD.out hf
      obtain rfl : on = p' := by omega
      have HQ := Lib.hid hq
      have HG := Lib.hid (HG.out.keep hb HG.out.lt)
      have HL := Lib.hid (HL.out.keep hb)
      have HB := Lib.hid (HB.out.trans (hb.mono HB.out.size))
      clear hb hf hp' hq
      go_wp2_with fail
      refine (Tld.same_nil w63 HL.out).mono ?_
      rintro e1 w64 ⟨rfl, hb⟩
      have HG := Lib.hid (HG.out.keep hb HG.out.lt)
      have HL := Lib.hid (HL.out.keep hb)
      have HB := Lib.hid (HB.out.trans (hb.mono HB.out.size))
      clear hb
      have l1 := row_range HG.out
      go_wp2_with (refine wpList_load_mid rfl 24 _ rfl w.heap.size 0 rfl _ _ l1 Tryd.underlying24 rfl infoGraph ?_)
      clear l1
      refine (rreduced_any on 0 m ea ec f da dc zs w64 (rows_keep HE.out HB.out) HOK.out HOK.out.p1 (HD.out.keep HB.out) HZ.out).mono ?_
      rintro e1 w65 ⟨b1, c1, R1, rfl, hv1, he1, hr1, hb⟩
      have HV1 := Lib.hid (hv1.is HP1.out)
      have HE1 := Lib.hid he1
      have HR1 := Lib.hid hr1
      have HG := Lib.hid (HG.out.keep hb HG.out.lt)
      have HL := Lib.hid (HL.out.keep hb)
      have HB := Lib.hid (HB.out.trans (hb.mono HB.out.size))
      clear hb hv1 he1 hr1
      have l1 := row_range HG.out
      go_wp2_with (refine wpList_load_mid rfl 24 _ rfl w.heap.size 0 rfl _ _ l1 Tryd.underlying24 rfl infoGraph ?_)
      clear l1
      refine (rreduced_any on 0 m ea ec f oa oc ys w65 (rows_keep HE.out HB.out) HOK.out HOK.out.p1 (HO.out.keep HB.out) HY.out).mono ?_
      rintro e1 w66 ⟨b2, c2, R2, rfl, hv2, he2, hr2, hb⟩
      have HV2 := Lib.hid (hv2.is HP1.out)
      have HE2 := Lib.hid he2
      have HR2 := Lib.hid hr2
      have HG := Lib.hid (HG.out.keep hb HG.out.lt)
      have HL := Lib.hid (HL.out.keep hb)
      have HV1 := Lib.hid (HV1.out.keep hb)
      have HB := Lib.hid (HB.out.trans (hb.mono HB.out.size))
      clear hb hv2 he2 hr2
      go_wp2_with fail
      refine (Ints.ints_any _ _ on on c1 c2 (lstF on R1) (lstF on R2) w66 HV1.out HV2.out).mono ?_
      rintro e1 w67 ⟨rfl, hb⟩
      have HG := Lib.hid (HG.out.keep hb HG.out.lt)
      have HL := Lib.hid (HL.out.keep hb)
      have HB := Lib.hid (HB.out.trans (hb.mono HB.out.size))
      clear hb HV1 HV2
      have hqs : decide (lstF on R1 = lstF on R2) = q := by
        have h1 := same_iff HOK.out.p1 HE1.out HR1.out HE2.out HR2.out
        cases q
        · exact decide_eq_false fun h => Bool.noConfusion (HQ.out.2 (h1.1 h))
        · exact decide_eq_true (h1.2 (HQ.out.1 rfl))
      rw [hqs]
      have q5 : (q == q) = true := by cases q <;> rfl
      clear hqs
      go_wp2_with fail
      go_ret
      exact ⟨rfl, HB.out⟩
    · --{T3
      have l1 := row_range HG.out
      go_wp2_with (refine wpList_load_mid rfl 24 _ rfl w.heap.size 0 rfl _ _ l1 Tryd.underlying24 rfl infoGraph ?_)
      clear l1
      refine (fireP_any (dn : Int) at' times ea m ec f da dn dc zs wc (rows_keep HE.out HB.out) hm (HD.out.keep HB.out)).mono ?_
      rintro e1 w68 ⟨⟨hf, rfl⟩ | ⟨hf, _, rfl⟩ | ⟨hf, _, _, p', a', bq, cq, hp', ha', hap', _⟩, hb⟩
      · exact absurd HCF.out hf
      rotate_left
      · have := HAT.out
        omega
      have HG := Lib.hid (HG.out.keep hb HG.out.lt)
      have HL := Lib.hid (HL.out.keep hb)
      have HB := Lib.hid (HB.out.trans (hb.mono HB.out.size))
      clear hb hf
      go_wp2_with fail
      refine (Tld.same_self 1 w68 HL.out (by omega)).mono ?_
      rintro e1 w69 ⟨rfl, hb⟩
      have HG := Lib.hid (HG.out.keep hb HG.out.lt)
      have HL := Lib.hid (HL.out.keep hb)
      have HB := Lib.hid (HB.out.trans (hb.mono HB.out.size))
      clear hb
      go_wp2_with fail
      refine (Ints.ints_any none none 0 0 0 0 [] [] w69 (Ints.Is.nil _) (Ints.Is.nil _)).mono ?_
      rintro e1 w70 ⟨rfl, hb⟩
      have HG := Lib.hid (HG.out.keep hb HG.out.lt)
      have HL := Lib.hid (HL.out.keep hb)
      have HB := Lib.hid (HB.out.trans (hb.mono HB.out.size))
      clear hb
      rw [decide_eq_true (rfl : ([] : List Int) = [])]
      have l1 := row_range HG.out
      go_wp2_with (refine wpList_load_mid rfl 24 _ rfl w.heap.size 0 rfl _ _ l1 Tryd.underlying24 rfl infoGraph ?_)
      clear l1
      refine (reducedP_any (dn : Int) at' ea m ec f da dn dc zs w70 (rows_keep HE.out HB.out) hm (HD.out.keep HB.out)).mono ?_
      rintro e1 w71 ⟨⟨hf, rfl⟩ | ⟨hf, ho, rfl⟩ | ⟨hf, p', a', bq, cq, R, hp', ha', hap', _⟩, hb⟩
      · exact absurd HCF.out hf
      rotate_left
      · have := HAT.out
        omega
      have HG := Lib.hid (HG.out.keep hb HG.out.lt)
      have HL := Lib.hid (HL.out.keep hb)
      have HB := Lib.hid (HB.out.trans (hb.mono HB.out.size))
      clear hb hf ho
      go_wp2_with fail
      refine (Tld.same_self 1 w71 HL.out (by omega)).mono ?_
      rintro e1 w72 ⟨rfl, hb⟩
      have HG := Lib.hid (HG.out.keep hb HG.out.lt)
      have HL := Lib.hid (HL.out.keep hb)
      have HB := Lib.hid (HB.out.trans (hb.mono HB.out.size))
      clear hb
      go_wp2_with fail
      refine (Ints.ints_any none none 0 0 0 0 [] [] w72 (Ints.Is.nil _) (Ints.Is.nil _)).mono ?_
      rintro e1 w73 ⟨rfl, hb⟩
      have HG := Lib.hid (HG.out.keep hb HG.out.lt)
      have HL := Lib.hid (HL.out.keep hb)
      have HB := Lib.hid (HB.out.trans (hb.mono HB.out.size))
      clear hb
      rw [decide_eq_true (rfl : ([] : List Int) = [])]
      have l1 := row_range HG.out
      go_wp2_with (refine wpList_load_mid rfl 24 _ rfl w.heap.size 0 rfl _ _ l1 Tryd.underlying24 rfl infoGraph ?_)
      clear l1
      refine (rdiv_any dn ea m ec oa on oc ys w73 (HO.out.keep HB.out) hp10).mono ?_
      rintro e1 w74 ⟨rfl, hb⟩
      have HG := Lib.hid (HG.out.keep hb HG.out.lt)
      have HL := Lib.hid (HL.out.keep hb)
      have HB := Lib.hid (HB.out.trans (hb.mono HB.out.size))
      clear hb
      by_cases hy : dfault dn ys = 0
      rotate_left
      · --{OBAD
        have HC2 : Hid (chfault (dn : Int) m f [zs, ys] = dfault dn ys) := by show _ = _; rw [chfault_l HGF.out, Int.toNat_natCast, lchk_two HDF.out]
        have HZR : Hid (-1000 ≤ dfault dn ys ∧ dfault dn ys ≤ 1000) := dfault_small
        generalize dfault dn ys = z at *
        have HZN := Lib.hid hy
        have q2 : (z != 0) = true := by rw [bne_iff_ne]; exact hy
        clear hy
        have l1 := row_range HG.out
        go_wp2_with (refine wpList_load_mid rfl 24 _ rfl w.heap.size 0 rfl _ _ l1 Tryd.underlying24 rfl infoGraph ?_)
        clear l1
        refine (sameP_any (dn : Int) ea m ec f da dn dc zs oa on oc ys w74 (rows_keep HE.out HB.out) hm (HD.out.keep HB.out) (HO.out.keep HB.out)).mono ?_
        rintro e1 w75 ⟨⟨hf, rfl⟩ | ⟨hf, _⟩, hb⟩
        rotate_left
        · exact absurd (HC2.out.symm.trans hf) HZN.out
        have HG := Lib.hid (HG.out.keep hb HG.out.lt)
        have HL := Lib.hid (HL.out.keep hb)
        have HB := Lib.hid (HB.out.trans (hb.mono HB.out.size))
        clear hb hf
        rw [HC2.out]
        go_wp2_with fail
        refine (Tld.same_self z w75 HL.out HZR.out).mono ?_
        rintro e1 w76 ⟨rfl, hb⟩
        have HG := Lib.hid (HG.out.keep hb HG.out.lt)
        have HL := Lib.hid (HL.out.keep hb)
        have HB := Lib.hid (HB.out.trans (hb.mono HB.out.size))
        clear hb
        go_wp2_with fail
        go_ret
        exact ⟨rfl, HB.out⟩
      have HCD : Hid (chfault (dn : Int) m f [zs, ys] = 0) := ch_two HGF.out HDF.out hy
      obtain ⟨hyl, hyz⟩ := dfault_zero hy
      have HY := Lib.hid hyz
      rw [hy]
      have hop : on = dn := by rw [← HOL.out]; exact hyl
      subst hop
      clear hy hyl hyz
      have l1 := row_range HG.out
      go_wp2_with (refine wpList_load_mid rfl 24 _ rfl w.heap.size 0 rfl _ _ l1 Tryd.underlying24 rfl infoGraph ?_)
      clear l1
      refine (sameP_any (on : Int) ea m ec f da on dc zs oa on oc ys w74 (rows_keep HE.out HB.out) hm (HD.out.keep HB.out) (HO.out.keep HB.out)).mono ?_
      rintro e1 w77 ⟨⟨hf, rfl⟩ | ⟨hf, p', q, hp', hq, rfl⟩, hb⟩
      · exact absurd HCD.out hf
      obtain rfl : on = p' := by omega
      have HQ := Lib.hid hq
      have HG := Lib.hid (HG.out.keep hb HG.out.lt)
      have HL := Lib.hid (HL.out.keep hb)
      have HB := Lib.hid (HB.out.trans (hb.mono HB.out.size))
      clear hb hf hp' hq
      go_wp2_with fail
      refine (Tld.same_nil w77 HL.out).mono ?_
      rintro e1 w78 ⟨rfl, hb⟩
      have HG := Lib.hid (HG.out.keep hb HG.out.lt)
      have HL := Lib.hid (HL.out.keep hb)
      have HB := Lib.hid (HB.out.trans (hb.mono HB.out.size))
      clear hb
      have l1 := row_range HG.out
      go_wp2_with (refine wpList_load_mid rfl 24 _ rfl w.heap.size 0 rfl _ _ l1 Tryd.underlying24 rfl infoGraph ?_)
      clear l1
      refine (rreduced_any on 0 m ea ec f da dc zs w78 (rows_keep HE.out HB.out) HOK.out HOK.out.p1 (HD.out.keep HB.out) HZ.out).mono ?_
      rintro e1 w79 ⟨b1, c1, R1, rfl, hv1, he1, hr1, hb⟩
      have HV1 := Lib.hid (hv1.is HP1.out)
      have HE1 := Lib.hid he1
      have HR1 := Lib.hid hr1
      have HG := Lib.hid (HG.out.keep hb HG.out.lt)
      have HL := Lib.hid (HL.out.keep hb)
      have HB := Lib.hid (HB.out.trans (hb.mono HB.out.size))
      clear hb hv1 he1 hr1
      have l1 := row_range HG.out
      go_wp2_with (refine wpList_load_mid rfl 24 _ rfl w.heap.size 0 rfl _ _ l1 Tryd.underlying24 rfl infoGraph ?_)
      clear l1
      refine (rreduced_any on 0 m ea ec f oa oc ys w79 (rows_keep HE.out HB.out) HOK.out HOK.out.p1 (HO.out.keep HB.out) HY.out).mono ?_
      rintro e1 w80 ⟨b2, c2, R2, rfl, hv2, he2, hr2, hb⟩
      have HV2 := Lib.hid (hv2.is HP1.out)
      have HE2 := Lib.hid he2
      have HR2 := Lib.hid hr2
      have HG := Lib.hid (HG.out.keep hb HG.out.lt)
      have HL := Lib.hid (HL.out.keep hb)
      have HV1 := Lib.hid (HV1.out.keep hb)
      have HB := Lib.hid (HB.out.trans (hb.mono HB.out.size))
      clear hb hv2 he2 hr2
      go_wp2_with fail
      refine (Ints.ints_any _ _ on on c1 c2 (lstF on R1) (lstF on R2) w80 HV1.out HV2.out).mono ?_
      rintro e1 w81 ⟨rfl, hb⟩
      have HG := Lib.hid (HG.out.keep hb HG.out.lt)
      have HL := Lib.hid (HL.out.keep hb)
      have HB := Lib.hid (HB.out.trans (hb.mono HB.out.size))
      clear hb HV1 HV2
      have hqs : decide (lstF on R1 = lstF on R2) = q := by
        have h1 := same_iff HOK.out.p1 HE1.out HR1.out HE2.out HR2.out
        cases q
        · exact decide_eq_false fun h => Bool.noConfusion (HQ.out.2 (h1.1 h))
        · exact decide_eq_true (h1.2 (HQ.out.1 rfl))
      rw [hqs]
      have q5 : (q == q) = true := by cases q <;> rfl
      clear hqs
      go_wp2_with fail
      go_ret
      exact ⟨rfl, HB.out⟩
  rw [decide_eq_false hat]
  obtain ⟨a, rfl⟩ := Int.eq_ofNat_of_zero_le (a := at') (by omega)
  have hap : a < dn := by omega
  clear hat
  by_cases ht1 : times < -1000
  · --{A1
    have l1 := row_range HG.out
    go_wp2_with (refine wpList_load_mid rfl 24 _ rfl w.heap.size 0 rfl _ _ l1 Tryd.underlying24 rfl infoGraph ?_)
    clear l1
    refine (fireP_any (dn : Int) (a : Int) times ea m ec f da dn dc zs wc (rows_keep HE.out HB.out) hm (HD.out.keep HB.out)).mono ?_
    rintro e1 w82 ⟨⟨hf, rfl⟩ | ⟨hf, _, rfl⟩ | ⟨hf, hx1, hx2, _⟩, hb⟩
    · exact absurd HCF.out hf
    rotate_left
    · omega
    have HG := Lib.hid (HG.out.keep hb HG.out.lt)
    have HL := Lib.hid (HL.out.keep hb)
    have HB := Lib.hid (HB.out.trans (hb.mono HB.out.size))
    clear hb hf
    go_wp2_with fail
    refine (Tld.same_self 1 w82 HL.out (by omega)).mono ?_
    rintro e1 w83 ⟨rfl, hb⟩
    have HG := Lib.hid (HG.out.keep hb HG.out.lt)
    have HL := Lib.hid (HL.out.keep hb)
    have HB := Lib.hid (HB.out.trans (hb.mono HB.out.size))
    clear hb
    go_wp2_with fail
    refine (Ints.ints_any none none 0 0 0 0 [] [] w83 (Ints.Is.nil _) (Ints.Is.nil _)).mono ?_
    rintro e1 w84 ⟨rfl, hb⟩
    have HG := Lib.hid (HG.out.keep hb HG.out.lt)
    have HL := Lib.hid (HL.out.keep hb)
    have HB := Lib.hid (HB.out.trans (hb.mono HB.out.size))
    clear hb
    rw [decide_eq_true (rfl : ([] : List Int) = [])]
    have l1 := row_range HG.out
    go_wp2_with (refine wpList_load_mid rfl 24 _ rfl w.heap.size 0 rfl _ _ l1 Tryd.underlying24 rfl infoGraph ?_)
    clear l1
    refine (reducedP_any (dn : Int) (a : Int) ea m ec f da dn dc zs w84 (rows_keep HE.out HB.out) hm (HD.out.keep HB.out)).mono ?_
    rintro e1 w85 ⟨⟨hf, rfl⟩ | ⟨hf, ho, rfl⟩ | ⟨hf, p', a', bq, cq, R, hp', ha', hap', rfl, hvq, heq, hred, _⟩, hb⟩
    · exact absurd HCF.out hf
    · exact absurd ho (by omega)
    obtain rfl : dn = p' := by omega
    obtain rfl : a = a' := by omega
    have HV := Lib.hid (hvq.is HP1.out)
    have HEQ := Lib.hid heq
    have HRED := Lib.hid hred
    have HG := Lib.hid (HG.out.keep hb HG.out.lt)
    have HL := Lib.hid (HL.out.keep hb)
    have HB := Lib.hid (HB.out.trans (hb.mono HB.out.size))
    clear hb hf hp' ha' hvq heq hred
    go_wp2_with fail
    refine (Tld.same_nil w85 HL.out).mono ?_
    rintro e1 w86 ⟨rfl, hb⟩
    have HG := Lib.hid (HG.out.keep hb HG.out.lt)
    have HL := Lib.hid (HL.out.keep hb)
    have HV := Lib.hid (HV.out.keep hb)
    have HB := Lib.hid (HB.out.trans (hb.mono HB.out.size))
    clear hb
    have l1 := row_range HG.out
    go_wp2_with (refine wpList_load_mid rfl 24 _ rfl w.heap.size 0 rfl _ _ l1 Tryd.underlying24 rfl infoGraph ?_)
    clear l1
    refine (rreduced_any dn a m ea ec f da dc zs w86 (rows_keep HE.out HB.out) HOK.out hap' (HD.out.keep HB.out) HZ.out).mono ?_
    rintro e1 w87 ⟨b2, c2, R2, rfl, hv2, he2, hr2, hb⟩
    have HV2 := Lib.hid (hv2.is HP1.out)
    have HSM : Hid (lstF dn R = lstF dn R2) := lstF_congr fun k hk => HRED.out.unique hr2 (HEQ.out.symm.trans he2) hap' k hk
    have HG := Lib.hid (HG.out.keep hb HG.out.lt)
    have HL := Lib.hid (HL.out.keep hb)
    have HV := Lib.hid (HV.out.keep hb)
    have HB := Lib.hid (HB.out.trans (hb.mono HB.out.size))
    clear hb hv2 he2 hr2
    go_wp2_with fail
    refine (Ints.ints_any _ _ dn dn cq c2 (lstF dn R) (lstF dn R2) w87 HV.out HV2.out).mono ?_
    rintro e1 w88 ⟨rfl, hb⟩
    have HG := Lib.hid (HG.out.keep hb HG.out.lt)
    have HL := Lib.hid (HL.out.keep hb)
    have HB := Lib.hid (HB.out.trans (hb.mono HB.out.size))
    clear hb HV HV2
    rw [decide_eq_true HSM.out]
    clear HSM HEQ HRED
    have l1 := row_range HG.out
    go_wp2_with (refine wpList_load_mid rfl 24 _ rfl w.heap.size 0 rfl _ _ l1 Tryd.underlying24 rfl infoGraph ?_)
    clear l1
    refine (rdiv_any dn ea m ec oa on oc ys w88 (HO.out.keep HB.out) hp10).mono ?_
    rintro e1 w89 ⟨rfl, hb⟩
    have HG := Lib.hid (HG.out.keep hb HG.out.lt)
    have HL := Lib.hid (HL.out.keep hb)
    have HB := Lib.hid (HB.out.trans (hb.mono HB.out.size))
    clear hb
    by_cases hy : dfault dn ys = 0
    rotate_left
    · --{OBAD
      have HC2 : Hid (chfault (dn : Int) m f [zs, ys] = dfault dn ys) := by show _ = _; rw [chfault_l HGF.out, Int.toNat_natCast, lchk_two HDF.out]
      have HZR : Hid (-1000 ≤ dfault dn ys ∧ dfault dn ys ≤ 1000) := dfault_small
      generalize dfault dn ys = z at *
      have HZN := Lib.hid hy
      have q2 : (z != 0) = true := by rw [bne_iff_ne]; exact hy
      clear hy
      have l1 := row_range HG.out
      go_wp2_with (refine wpList_load_mid rfl 24 _ rfl w.heap.size 0 rfl _ _ l1 Tryd.underlying24 rfl infoGraph ?_)
      clear l1
      refine (sameP_any (dn : Int) ea m ec f da dn dc zs oa on oc ys w89 (rows_keep HE.out HB.out) hm (HD.out.keep HB.out) (HO.out.keep HB.out)).mono ?_
      rintro e1 w90 ⟨⟨hf, rfl⟩ | ⟨hf, _⟩, hb⟩
      rotate_left
      · exact absurd (HC2.out.symm.trans hf) HZN.out
      have HG := Lib.hid (HG.out.keep hb HG.out.lt)
      have HL := Lib.hid (HL.out.keep hb)
      have HB := Lib.hid (HB.out.trans (hb.mono HB.out.size))
      clear hb hf
      rw [HC2.out]
      go_wp2_with fail
      refine (Tld.same_self z w90 HL.out HZR.out).mono ?_
      rintro e1 w91 ⟨rfl, hb⟩
      have HG := Lib.hid (HG.out.keep hb HG.out.lt)
      have HL := Lib.hid (HL.out.keep hb)
      have HB := Lib.hid (HB.out.trans (hb.mono HB.out.size))
      clear hb
      go_wp2_with fail
      go_ret
      exact ⟨rfl, HB.out⟩
    have HCD : Hid (chfault (dn : Int) m f [zs, ys] = 0) := ch_two HGF.out HDF.out hy
    obtain ⟨hyl, hyz⟩ := dfault_zero hy
    have HY := Lib.hid hyz
    rw [hy]
    have hop : on = dn := by rw [← HOL.out]; exact hyl
    subst hop
    clear hy hyl hyz
    have l1 := row_range HG.out
    go_wp2_with (refine wpList_load_mid rfl 24 _ rfl w.heap.size 0 rfl _ _ l1 Tryd.underlying24 rfl infoGraph ?_)
    clear l1
    refine (sameP_any (on : Int) ea m ec f da on dc zs oa on oc ys w89 (rows_keep HE.out HB.out) hm (HD.out.keep HB.out) (HO.out.keep HB.out)).mono ?_
    rintro e1 w92 ⟨⟨hf, rfl⟩ | ⟨hf, p', q, hp', hq, rfl⟩, hb⟩
    · exact absurd HCD.out hf
    obtain rfl : on = p' := by omega
    have HQ := Lib.hid hq
    have HG := Lib.hid (HG.out.keep hb HG.out.lt)
    have HL := Lib.hid (HL.out.keep hb)
    have HB := Lib.hid (HB.out.trans (hb.mono HB.out.size))
    clear hb hf hp' hq
    go_wp2_with fail
    refine (Tld.same_nil w92 HL.out).mono ?_
    rintro e1 w93 ⟨rfl, hb⟩
    have HG := Lib.hid (HG.out.keep hb HG.out.lt)
    have HL := Lib.hid (HL.out.keep hb)
    have HB := Lib.hid (HB.out.trans (hb.mono HB.out.size))
    clear hb
    have l1 := row_range HG.out
    go_wp2_with (refine wpList_load_mid rfl 24 _ rfl w.heap.size 0 rfl _ _ l1 Tryd.underlying24 rfl infoGraph ?_)
    clear l1
    refine (rreduced_any on 0 m ea ec f da dc zs w93 (rows_keep HE.out HB.out) HOK.out HOK.out.p1 (HD.out.keep HB.out) HZ.out).mono ?_
    rintro e1 w94 ⟨b1, c1, R1, rfl, hv1, he1, hr1, hb⟩
    have HV1 := Lib.hid (hv1.is HP1.out)
    have HE1 := Lib.hid he1
    have HR1 := Lib.hid hr1
    have HG := Lib.hid (HG.out.keep hb HG.out.lt)
    have HL := Lib.hid (HL.out.keep hb)
    have HB := Lib.hid (HB.out.trans (hb.mono HB.out.size))
    clear hb hv1 he1 hr1
    have l1 := row_range HG.out
    go_wp2_with (refine wpList_load_mid rfl 24 _ rfl w.heap.size 0 rfl _ _ l1 Tryd.underlying24 rfl infoGraph ?_)
    clear l1
    refine (rreduced_any on 0 m ea ec f oa oc ys w94 (rows_keep HE.out HB.out) HOK.out HOK.out.p1 (HO.out.keep HB.out) HY.out).mono ?_
    rintro e1 w95 ⟨b2, c2, R2, rfl, hv2, he2, hr2, hb⟩
    have HV2 := Lib.hid (hv2.is HP1.out)
    have HE2 := Lib.hid he2
    have HR2 := Lib.hid hr2
    have HG := Lib.hid (HG.out.keep hb HG.out.lt)
    have HL := Lib.hid (HL.out.keep hb)
    have HV1 := Lib.hid (HV1.out.keep hb)
    have HB := Lib.hid (HB.out.trans (hb.mono HB.out.size))
    clear hb hv2 he2 hr2
    go_wp2_with fail
    refine (Ints.ints_any _ _ on on c1 c2 (lstF on R1) (lstF on R2) w95 HV1.out HV2.out).mono ?_
    rintro e1 w96 ⟨rfl, hb⟩
    have HG := Lib.hid (HG.out.keep hb HG.out.lt)
    have HL := Lib.hid (HL.out.keep hb)
    have HB := Lib.hid (HB.out.trans (hb.mono HB.out.size))
    clear hb HV1 HV2
    have hqs : decide (lstF on R1 = lstF on R2) = q := by
      have h1 := same_iff HOK.out.p1 HE1.out HR1.out HE2.out HR2.out
      cases q
      · exact decide_eq_false fun h => Bool.noConfusion (HQ.out.2 (h1.1 h))
      · exact decide_eq_true (h1.2 (HQ.out.1 rfl))
    rw [hqs]
    have q5 : (q == q) = true := by cases q <;> rfl
    clear hqs
    go_wp2_with fail
    go_ret
    exact ⟨rfl, HB.out⟩
  by_cases ht2 : 1000 < times
  · --{A2
    have l1 := row_range HG.out
    go_wp2_with (refine wpList_load_mid rfl 24 _ rfl w.heap.size 0 rfl _ _ l1 Tryd.underlying24 rfl infoGraph ?_)
    clear l1
    refine (fireP_any (dn : Int) (a : Int) times ea m ec f da dn dc zs wc (rows_keep HE.out HB.out) hm (HD.out.keep HB.out)).mono ?_
    rintro e1 w97 ⟨⟨hf, rfl⟩ | ⟨hf, _, rfl⟩ | ⟨hf, hx1, hx2, _⟩, hb⟩
    · exact absurd HCF.out hf
    rotate_left
    · omega
    have HG := Lib.hid (HG.out.keep hb HG.out.lt)
    have HL := Lib.hid (HL.out.keep hb)
    have HB := Lib.hid (HB.out.trans (hb.mono HB.out.size))
    clear hb hf
    go_wp2_with fail
    refine (Tld.same_self 1 w97 HL.out (by omega)).mono ?_
    rintro e1 w98 ⟨rfl, hb⟩
    have HG := Lib.hid (HG.out.keep hb HG.out.lt)
    have HL := Lib.hid (HL.out.keep hb)
    have HB := Lib.hid (HB.out.trans (hb.mono HB.out.size))
    clear hb
    go_wp2_with fail
    refine (Ints.ints_any none none 0 0 0 0 [] [] w98 (Ints.Is.nil _) (Ints.Is.nil _)).mono ?_
    rintro e1 w99 ⟨rfl, hb⟩
    have HG := Lib.hid (HG.out.keep hb HG.out.lt)
    have HL := Lib.hid (HL.out.keep hb)
    have HB := Lib.hid (HB.out.trans (hb.mono HB.out.size))
    clear hb
    rw [decide_eq_true (rfl : ([] : List Int) = [])]
    have l1 := row_range HG.out
    go_wp2_with (refine wpList_load_mid rfl 24 _ rfl w.heap.size 0 rfl _ _ l1 Tryd.underlying24 rfl infoGraph ?_)
    clear l1
    refine (reducedP_any (dn : Int) (a : Int) ea m ec f da dn dc zs w99 (rows_keep HE.out HB.out) hm (HD.out.keep HB.out)).mono ?_
    rintro e1 w100 ⟨⟨hf, rfl⟩ | ⟨hf, ho, rfl⟩ | ⟨hf, p', a', bq, cq, R, hp', ha', hap', rfl, hvq, heq, hred, _⟩, hb⟩
    · exact absurd HCF.out hf
    · exact absurd ho (by omega)
    obtain rfl : dn = p' := by omega
    obtain rfl : a = a' := by omega
    have HV := Lib.hid (hvq.is HP1.out)
    have HEQ := Lib.hid heq
    have HRED := Lib.hid hred
    have HG := Lib.hid (HG.out.keep hb HG.out.lt)
    have HL := Lib.hid (HL.out.keep hb)
    have HB := Lib.hid (HB.out.trans (hb.mono HB.out.size))
    clear hb hf hp' ha' hvq heq hred
    go_wp2_with fail
    refine (Tld.same_nil w100 HL.out).mono ?_
    rintro e1 w101 ⟨rfl, hb⟩
    have HG := Lib.hid (HG.out.keep hb HG.out.lt)
    have HL := Lib.hid (HL.out.keep hb)
    have HV := Lib.hid (HV.out.keep hb)
    have HB := Lib.hid (HB.out.trans (hb.mono HB.out.size))
    clear hb
    have l1 := row_range HG.out
    go_wp2_with (refine wpList_load_mid rfl 24 _ rfl w.heap.size 0 rfl _ _ l1 Tryd.underlying24 rfl infoGraph ?_)
    clear l1
    refine (rreduced_any dn a m ea ec f da dc zs w101 (rows_keep HE.out HB.out) HOK.out hap' (HD.out.keep HB.out) HZ.out).mono ?_
    rintro e1 w102 ⟨b2, c2, R2, rfl, hv2, he2, hr2, hb⟩
    have HV2 := Lib.hid (hv2.is HP1.out)
    have HSM : Hid (lstF dn R = lstF dn R2) := lstF_congr fun k hk => HRED.out.unique hr2 (HEQ.out.symm.trans he2) hap' k hk
    have HG := Lib.hid (HG.out.keep hb HG.out.lt)
    have HL := Lib.hid (HL.out.keep hb)
    have HV := Lib.hid (HV.out.keep hb)
    have HB := Lib.hid (HB.out.trans (hb.mono HB.out.size))
    clear hb hv2 he2 hr2
    go_wp2_with fail
    refine (Ints.ints_any _ _ dn dn cq c2 (lstF dn R) (lstF dn R2) w102 HV.out HV2.out).mono ?_
    rintro e1 w103 ⟨rfl, hb⟩
    have HG := Lib.hid (HG.out.keep hb HG.out.lt)
    have HL := Lib.hid (HL.out.keep hb)
    have HB := Lib.hid (HB.out.trans (hb.mono HB.out.size))
    clear hb HV HV2
    rw [decide_eq_true HSM.out]
    clear HSM HEQ HRED
    have l1 := row_range HG.out
    go_wp2_with (refine wpList_load_mid rfl 24 _ rfl w.heap.size 0 rfl _ _ l1 Tryd.underlying24 rfl infoGraph ?_)
    clear l1
    refine (rdiv_any dn ea m ec oa on oc ys w103 (HO.out.keep HB.out) hp10).mono ?_
    rintro e1 w104 ⟨rfl, hb⟩
    have HG := Lib.hid (HG.out.keep hb HG.out.lt)
    have HL := Lib.hid (HL.out.keep hb)
    have HB := Lib.hid (HB.out.trans (hb.mono HB.out.size))
    clear hb
    by_cases hy : dfault dn ys = 0
    rotate_left
    · --{OBAD
      have HC2 : Hid (chfault (dn : Int) m f [zs, ys] = dfault dn ys) := by show _ = _; rw [chfault_l HGF.out, Int.toNat_natCast, lchk_two HDF.out]
      have HZR : Hid (-1000 ≤ dfault dn ys ∧ dfault dn ys ≤ 1000) := dfault_small
      generalize dfault dn ys = z at *
      have HZN := Lib.hid hy
      have q2 : (z != 0) = true := by rw [bne_iff_ne]; exact hy
      clear hy
      have l1 := row_range HG.out
      go_wp2_with (refine wpList_load_mid rfl 24 _ rfl w.heap.size 0 rfl _ _ l1 Tryd.underlying24 rfl infoGraph ?_)
      clear l1
      refine (sameP_any (dn : Int) ea m ec f da dn dc zs oa on oc ys w104 (rows_keep HE.out HB.out) hm (HD.out.keep HB.out) (HO.out.keep HB.out)).mono ?_
      rintro e1 w105 ⟨⟨hf, rfl⟩ | ⟨hf, _⟩, hb⟩
      rotate_left
      · exact absurd (HC2.out.symm.trans hf) HZN.out
      have HG := Lib.hid (HG.out.keep hb HG.out.lt)
      have HL := Lib.hid (HL.out.keep hb)
      have HB := Lib.hid (HB.out.trans (hb.mono HB.out.size))
      clear hb hf
      rw [HC2.out]
      go_wp2_with fail
      refine (Tld.same_self z w105 HL.out HZR.out).mono ?_
      rintro e1 w106 ⟨rfl, hb⟩
      have HG := Lib.hid (HG.out.keep hb HG.out.lt)
      have HL := Lib.hid (HL.out.keep hb)
      have HB := Lib.hid (HB.out.trans (hb.mono HB.out.size))
      clear hb
      go_wp2_with fail
      go_ret
      exact ⟨rfl, HB.out⟩
    have HCD : Hid (chfault (dn : Int) m f [zs, ys] = 0) := ch_two HGF.out HDF.out hy
    obtain ⟨hyl, hyz⟩ := dfault_zero hy
    have HY := Lib.hid hyz
    rw [hy]
    have hop : on = dn := by rw [← HOL.out]; exact hyl
    subst hop
    clear hy hyl hyz
    have l1 := row_range HG.out
    go_wp2_with (refine wpList_load_mid rfl 24 _ rfl w.heap.size 0 rfl _ _ l1 Tryd.underlying24 rfl infoGraph ?_)
    clear l1
    refine (sameP_any (on : Int) ea m ec f da on dc zs oa on oc ys w104 (rows_keep HE.out HB.out) hm (HD.out.keep HB.out) (HO.out.keep HB.out)).mono ?_
    rintro e1 w107 ⟨⟨hf, rfl⟩ | ⟨hf, p', q, hp', hq, rfl⟩, hb⟩
    · exact absurd HCD.out hf
    obtain rfl : on = p' := by omega
    have HQ := Lib.hid hq
    have HG := Lib.hid (HG.out.keep hb HG.out.lt)
    have HL := Lib.hid (HL.out.keep hb)
    have HB := Lib.hid (HB.out.trans (hb.mono HB.out.size))
    clear hb hf hp' hq
    go_wp2_with fail
    refine (Tld.same_nil w107 HL.out).mono ?_
    rintro e1 w108 ⟨rfl, hb⟩
    have HG := Lib.hid (HG.out.keep hb HG.out.lt)
    have HL := Lib.hid (HL.out.keep hb)
    have HB := Lib.hid (HB.out.trans (hb.mono HB.out.size))
    clear hb
    have l1 := row_range HG.out
    go_wp2_with (refine wpList_load_mid rfl 24 _ rfl w.heap.size 0 rfl _ _ l1 Tryd.underlying24 rfl infoGraph ?_)
    clear l1
    refine (rreduced_any on 0 m ea ec f da dc zs w108 (rows_keep HE.out HB.out) HOK.out HOK.out.p1 (HD.out.keep HB.out) HZ.out).mono ?_
    rintro e1 w109 ⟨b1, c1, R1, rfl, hv1, he1, hr1, hb⟩
    have HV1 := Lib.hid (hv1.is HP1.out)
    have HE1 := Lib.hid he1
    have HR1 := Lib.hid hr1
    have HG := Lib.hid (HG.out.keep hb HG.out.lt)
    have HL := Lib.hid (HL.out.keep hb)
    have HB := Lib.hid (HB.out.trans (hb.mono HB.out.size))
    clear hb hv1 he1 hr1
    have l1 := row_range HG.out
    go_wp2_with (refine wpList_load_mid rfl 24 _ rfl w.heap.size 0 rfl _ _ l1 Tryd.underlying24 rfl infoGraph ?_)
    clear l1
    refine (rreduced_any on 0 m ea ec f oa oc ys w109 (rows_keep HE.out HB.out) HOK.out HOK.out.p1 (HO.out.keep HB.out) HY.out).mono ?_
    rintro e1 w110 ⟨b2, c2, R2, rfl, hv2, he2, hr2, hb⟩
    have HV2 := Lib.hid (hv2.is HP1.out)
    have HE2 := Lib.hid he2
    have HR2 := Lib.hid hr2
    have HG := Lib.hid (HG.out.keep hb HG.out.lt)
    have HL := Lib.hid (HL.out.keep hb)
    have HV1 := Lib.hid (HV1.out.keep hb)
    have HB := Lib.hid (HB.out.trans (hb.mono HB.out.size))
    clear hb hv2 he2 hr2
    go_wp2_with fail
    refine (Ints.ints_any _ _ on on c1 c2 (lstF on R1) (lstF on R2) w110 HV1.out HV2.out).mono ?_
    rintro e1 w111 ⟨rfl, hb⟩
    have HG := Lib.hid (HG.out.keep hb HG.out.lt)
    have HL := Lib.hid (HL.out.keep hb)
    have HB := Lib.hid (HB.out.trans (hb.mono HB.out.size))
    clear hb HV1 HV2
    have hqs : decide (lstF on R1 = lstF on R2) = q := by
      have h1 := same_iff HOK.out.p1 HE1.out HR1.out HE2.out HR2.out
      cases q
      · exact decide_eq_false fun h => Bool.noConfusion (HQ.out.2 (h1.1 h))
      · exact decide_eq_true (h1.2 (HQ.out.1 rfl))
    rw [hqs]
    have q5 : (q == q) = true := by cases q <;> rfl
    clear hqs
    go_wp2_with fail
    go_ret
    exact ⟨rfl, HB.out⟩
  · --{A3
    have l1 := row_range HG.out
    go_wp2_with (refine wpList_load_mid rfl 24 _ rfl w.heap.size 0 rfl _ _ l1 Tryd.underlying24 rfl infoGraph ?_)
    clear l1
    refine (fireP_any (dn : Int) (a : Int) times ea m ec f da dn dc zs wc (rows_keep HE.out HB.out) hm (HD.out.keep HB.out)).mono ?_
    rintro e1 w112 ⟨⟨hf, rfl⟩ | ⟨hf, ho, rfl⟩ | ⟨hf, _, _, p', a', bq, cq, hp', ha', hap', rfl, hvq⟩, hb⟩
    · exact absurd HCF.out hf
    · omega
    obtain rfl : dn = p' := by omega
    obtain rfl : a = a' := by omega
    have HV := Lib.hid (hvq.is HP1.out)
    have HG := Lib.hid (HG.out.keep hb HG.out.lt)
    have HL := Lib.hid (HL.out.keep hb)
    have HB := Lib.hid (HB.out.trans (hb.mono HB.out.size))
    clear hb hf hp' ha' hap' hvq
    go_wp2_with fail
    refine (Tld.same_nil w112 HL.out).mono ?_
    rintro e1 w113 ⟨rfl, hb⟩
    have HG := Lib.hid (HG.out.keep hb HG.out.lt)
    have HL := Lib.hid (HL.out.keep hb)
    have HV := Lib.hid (HV.out.keep hb)
    have HB := Lib.hid (HB.out.trans (hb.mono HB.out.size))
    clear hb
    have l1 := row_range HG.out
    go_wp2_with (refine wpList_load_mid rfl 24 _ rfl w.heap.size 0 rfl _ _ l1 Tryd.underlying24 rfl infoGraph ?_)
    clear l1
    refine (rfire_any dn a m times ea ec f da dc zs w113 (rows_keep HE.out HB.out) HOK.out hap (HD.out.keep HB.out) HZ.out (by omega) (by omega)).mono ?_
    rintro e1 w114 ⟨⟨b2, c2, rfl, hv2⟩, hb⟩
    have HV2 := Lib.hid (hv2.is HP1.out)
    have HG := Lib.hid (HG.out.keep hb HG.out.lt)
    have HL := Lib.hid (HL.out.keep hb)
    have HV := Lib.hid (HV.out.keep hb)
    have HB := Lib.hid (HB.out.trans (hb.mono HB.out.size))
    clear hb hv2
    generalize lstF dn (fireZ dn (fun a b => btw f a b m) (fun k => zs.getD k 0) (fun j => decide (j = a)) times) = qs at *
    go_wp2_with fail
    refine (Ints.ints_any _ _ dn dn cq c2 qs qs w114 HV.out HV2.out).mono ?_
    rintro e1 w115 ⟨rfl, hb⟩
    have HG := Lib.hid (HG.out.keep hb HG.out.lt)
    have HL := Lib.hid (HL.out.keep hb)
    have HB := Lib.hid (HB.out.trans (hb.mono HB.out.size))
    clear hb HV HV2
    rw [decide_eq_true rfl]
    have l1 := row_range HG.out
    go_wp2_with (refine wpList_load_mid rfl 24 _ rfl w.heap.size 0 rfl _ _ l1 Tryd.underlying24 rfl infoGraph ?_)
    clear l1
    refine (reducedP_any (dn : Int) (a : Int) ea m ec f da dn dc zs w115 (rows_keep HE.out HB.out) hm (HD.out.keep HB.out)).mono ?_
    rintro e1 w116 ⟨⟨hf, rfl⟩ | ⟨hf, ho, rfl⟩ | ⟨hf, p', a', bq, cq, R, hp', ha', hap', rfl, hvq, heq, hred, _⟩, hb⟩
    · exact absurd HCF.out hf
    · exact absurd ho (by omega)
    obtain rfl : dn = p' := by omega
    obtain rfl : a = a' := by omega
    have HV := Lib.hid (hvq.is HP1.out)
    have HEQ := Lib.hid heq
    have HRED := Lib.hid hred
    have HG := Lib.hid (HG.out.keep hb HG.out.lt)
    have HL := Lib.hid (HL.out.keep hb)
    have HB := Lib.hid (HB.out.trans (hb.mono HB.out.size))
    clear hb hf hp' ha' hvq heq hred
    go_wp2_with fail
    refine (Tld.same_nil w116 HL.out).mono ?_
    rintro e1 w117 ⟨rfl, hb⟩
    have HG := Lib.hid (HG.out.keep hb HG.out.lt)
    have HL := Lib.hid (HL.out.keep hb)
    have HV := Lib.hid (HV.out.keep hb)
    have HB := Lib.hid (HB.out.trans (hb.mono HB.out.size))
    clear hb
    have l1 := row_range HG.out
    go_wp2_with (refine wpList_load_mid rfl 24 _ rfl w.heap.size 0 rfl _ _ l1 Tryd.underlying24 rfl infoGraph ?_)
    clear l1
    refine (rreduced_any dn a m ea ec f da dc zs w117 (rows_keep HE.out HB.out) HOK.out hap' (HD.out.keep HB.out) HZ.out).mono ?_
    rintro e1 w118 ⟨b2, c2, R2, rfl, hv2, he2, hr2, hb⟩
    have HV2 := Lib.hid (hv2.is HP1.out)
    have HSM : Hid (lstF dn R = lstF dn R2) := lstF_congr fun k hk => HRED.out.unique hr2 (HEQ.out.symm.trans he2) hap' k hk
    have HG := Lib.hid (HG.out.keep hb HG.out.lt)
    have HL := Lib.hid (HL.out.keep hb)
    have HV := Lib.hid (HV.out.keep hb)
    have HB := Lib.hid (HB.out.trans (hb.mono HB.out.size))
    clear hb hv2 he2 hr2
    go_wp2_with fail
    refine (Ints.ints_any _ _ dn dn cq c2 (lstF dn R) (lstF dn R2) w118 HV.out HV2.out).mono ?_
    rintro e1 w119 ⟨rfl, hb⟩
    have HG := Lib.hid (HG.out.keep hb HG.out.lt)
    have HL := Lib.hid (HL.out.keep hb)
    have HB := Lib.hid (HB.out.trans (hb.mono HB.out.size))
    clear hb HV HV2
    rw [decide_eq_true HSM.out]
    clear HSM HEQ HRED
    have l1 := row_range HG.out
    go_wp2_with (refine wpList_load_mid rfl 24 _ rfl w.heap.size 0 rfl _ _ l1 Tryd.underlying24 rfl infoGraph ?_)
    clear l1
    refine (rdiv_any dn ea m ec oa on oc ys w119 (HO.out.keep HB.out) hp10).mono ?_
    rintro e1 w120 ⟨rfl, hb⟩
    have HG := Lib.hid (HG.out.keep hb HG.out.lt)
    have HL := Lib.hid (HL.out.keep hb)
    have HB := Lib.hid (HB.out.trans (hb.mono HB.out.size))
    clear hb
    by_cases hy : dfault dn ys = 0
    rotate_left
    · --{OBAD
      have HC2 : Hid (chfault (dn : Int) m f [zs, ys] = dfault dn ys) := by show _ = _; rw [chfault_l HGF.out, Int.toNat_natCast, lchk_two HDF.out]
      have HZR : Hid (-1000 ≤ dfault dn ys ∧ dfault dn ys ≤ 1000) := dfault_small
      generalize dfault dn ys = z at *
      have HZN := Lib.hid hy
      have q2 : (z != 0) = true := by rw [bne_iff_ne]; exact hy
      clear hy
      have l1 := row_range HG.out
      go_wp2_with (refine wpList_load_mid rfl 24 _ rfl w.heap.size 0 rfl _ _ l1 Tryd.underlying24 rfl infoGraph ?_)
      clear l1
      refine (sameP_any (dn : Int) ea m ec f da dn dc zs oa on oc ys w120 (rows_keep HE.out HB.out) hm (HD.out.keep HB.out) (HO.out.keep HB.out)).mono ?_
      rintro e1 w121 ⟨⟨hf, rfl⟩ | ⟨hf, _⟩, hb⟩
      rotate_left
      · exact absurd (HC2.out.symm.trans hf) HZN.out
      have HG := Lib.hid (HG.out.keep hb HG.out.lt)
      have HL := Lib.hid (HL.out.keep hb)
      have HB := Lib.hid (HB.out.trans (hb.mono HB.out.size))
      clear hb hf
      rw [HC2.out]
      go_wp2_with fail
      refine (Tld.same_self z w121 HL.out HZR.out).mono ?_
      rintro e1 w122 ⟨rfl, hb⟩
      have HG := Lib.hid (HG.out.keep hb HG.out.lt)
      have HL := Lib.hid (HL.out.keep hb)
      have HB := Lib.hid (HB.out.trans (hb.mono HB.out.size))
      clear hb
      go_wp2_with fail
      go_ret
      exact ⟨rfl, HB.out⟩
    have HCD : Hid (chfault (dn : Int) m f [zs, ys] = 0) := ch_two HGF.out HDF.out hy
    obtain ⟨hyl, hyz⟩ := dfault_zero hy
    have HY := Lib.hid hyz
    rw [hy]
    have hop : on = dn := by rw [← HOL.out]; exact hyl
    subst hop
    clear hy hyl hyz
    have l1 := row_range HG.out
    go_wp2_with (refine wpList_load_mid rfl 24 _ rfl w.heap.size 0 rfl _ _ l1 Tryd.underlying24 rfl infoGraph ?_)
    clear l1
    refine (sameP_any (on : Int) ea m ec f da on dc zs oa on oc ys w120 (rows_keep HE.out HB.out) hm (HD.out.keep HB.out) (HO.out.keep HB.out)).mono ?_
    rintro e1 w123 ⟨⟨hf, rfl⟩ | ⟨hf, p', q, hp', hq, rfl⟩, hb⟩
    · exact absurd HCD.out hf
    obtain rfl : on = p' := by omega
    have HQ := Lib.hid hq
    have HG := Lib.hid (HG.out.keep hb HG.out.lt)
    have HL := Lib.hid (HL.out.keep hb)
    have HB := Lib.hid (HB.out.trans (hb.mono HB.out.size))
    clear hb hf hp' hq
    go_wp2_with fail
    refine (Tld.same_nil w123 HL.out).mono ?_
    rintro e1 w124 ⟨rfl, hb⟩
    have HG := Lib.hid (HG.out.keep hb HG.out.lt)
    have HL := Lib.hid (HL.out.keep hb)
    have HB := Lib.hid (HB.out.trans (hb.mono HB.out.size))
    clear hb
    have l1 := row_range HG.out
    go_wp2_with (refine wpList_load_mid rfl 24 _ rfl w.heap.size 0 rfl _ _ l1 Tryd.underlying24 rfl infoGraph ?_)
    clear l1
    refine (rreduced_any on 0 m ea ec f da dc zs w124 (rows_keep HE.out HB.out) HOK.out HOK.out.p1 (HD.out.keep HB.out) HZ.out).mono ?_
    rintro e1 w125 ⟨b1, c1, R1, rfl, hv1, he1, hr1, hb⟩
    have HV1 := Lib.hid (hv1.is HP1.out)
    have HE1 := Lib.hid he1
    have HR1 := Lib.hid hr1
    have HG := Lib.hid (HG.out.keep hb HG.out.lt)
    have HL := Lib.hid (HL.out.keep hb)
    have HB := Lib.hid (HB.out.trans (hb.mono HB.out.size))
    clear hb hv1 he1 hr1
    have l1 := row_range HG.out
    go_wp2_with (refine wpList_load_mid rfl 24 _ rfl w.heap.size 0 rfl _ _ l1 Tryd.underlying24 rfl infoGraph ?_)
    clear l1
    refine (rreduced_any on 0 m ea ec f oa oc ys w125 (rows_keep HE.out HB.out) HOK.out HOK.out.p1 (HO.out.keep HB.out) HY.out).mono ?_
    rintro e1 w126 ⟨b2, c2, R2, rfl, hv2, he2, hr2, hb⟩
    have HV2 := Lib.hid (hv2.is HP1.out)
    have HE2 := Lib.hid he2
    have HR2 := Lib.hid hr2
    have HG := Lib.hid (HG.out.keep hb HG.out.lt)
    have HL := Lib.hid (HL.out.keep hb)
    have HV1 := Lib.hid (HV1.out.keep hb)
    have HB := Lib.hid (HB.out.trans (hb.mono HB.out.size))
    clear hb hv2 he2 hr2
    go_wp2_with fail
    refine (Ints.ints_any _ _ on on c1 c2 (lstF on R1) (lstF on R2) w126 HV1.out HV2.out).mono ?_
    rintro e1 w127 ⟨rfl, hb⟩
    have HG := Lib.hid (HG.out.keep hb HG.out.lt)
    have HL := Lib.hid (HL.out.keep hb)
    have HB := Lib.hid (HB.out.trans (hb.mono HB.out.size))
    clear hb HV1 HV2
    have hqs : decide (lstF on R1 = lstF on R2) = q := by
      have h1 := same_iff HOK.out.p1 HE1.out HR1.out HE2.out HR2.out
      cases q
      · exact decide_eq_false fun h => Bool.noConfusion (HQ.out.2 (h1.1 h))
      · exact decide_eq_true (h1.2 (HQ.out.1 rfl))
    rw [hqs]
    have q5 : (q == q) = true := by cases q <;> rfl
    clear hqs
    go_wp2_with fail
    go_ret
    exact ⟨rfl, HB.out⟩
end Ch
end Go.Proofs.YtjikildiblchpaaDoor
