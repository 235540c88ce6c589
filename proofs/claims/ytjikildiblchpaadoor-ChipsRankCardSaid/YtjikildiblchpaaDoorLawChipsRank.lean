/- THE LAW ChipsRank: its walk, out of its callees' contracts. Printed by gens/chrank.py. -/
import Derived.Test.YtjikildiblchpaaDoorCkM
import Derived.Test.YtjikildiblchpaaDoorSame
import Derived.Test.YtjikildiblchpaaDoorRfF
namespace Go.Proofs.YtjikildiblchpaaDoor
set_option linter.unusedSimpArgs false
set_option linter.unusedVariables false
open Go.RowKit Go.Lib
namespace Ch
open Tld Mem Rt

theorem gfault_small {P : Int} {m : Nat} {f : Nat → Nat → Int} : -1000 ≤ gfault P m f ∧ gfault P m f ≤ 1000 := by
  rcases gfault_cases (P := P) (m := m) (f := f) with h | h | h | h <;> rw [h] <;> decide
theorem dfault_small {p : Nat} {zs : List Int} : -1000 ≤ dfault p zs ∧ dfault p zs ≤ 1000 := by
  unfold dfault
  split
  · decide
  · split <;> decide
theorem lchk_one {p : Nat} {zs : List Int} : lchk p [zs] = dfault p zs := by
  unfold lchk lchk
  split
  · rfl
  · next h => exact (Classical.not_not.1 h).symm

set_option maxHeartbeats 16000000 in
set_option maxRecDepth 1000000 in
theorem chipsRank_any (P : Int) (ea : Option Addr) (m ec : Nat) (f : Nat → Nat → Int) (da : Option Addr) (dn dc : Nat) (zs : List Int) (w : World) (hL : Laid w) (hE : Mem.Rows w ea m 3 (fun i j => .int .i64 (f i j))) (hm : m ≤ 9223372036854775807) (hD : Ints.Is w da dn zs) :
    Calls Tryd.prog 4 #[.agg #[.int .i64 P, .slice ea m ec], .slice da dn dc] w fun e w' => e = .returned (.bool true) ∧ Below w.heap.size w w' := by
  have HE := Lib.hid hE
  have HD := Lib.hid hD
  have HDL := Lib.hid hD.len
  clear hE hD
  go_enter Tryd.func4, Tryd.ntmps4
  go_upto_region 1 with fail
  have hR : Row (w.alloc (.cells #[.int .i64 P, .slice ea m ec] 24)) w.heap.size 24 [.int .i64 P, .slice ea m ec] := row_alloc w _ _
  have hb : Below w.heap.size w (w.alloc (.cells #[.int .i64 P, .slice ea m ec] 24)) := (Below.refl _ _).alloc (Nat.le_refl _) _
  have HG := Lib.hid hR
  have HB := Lib.hid hb
  have HL := Lib.hid (hL.keep hb)
  clear hR hb hL
  generalize w.alloc (.cells #[.int .i64 P, .slice ea m ec] 24) = w1 at *
  have l1 := row_range HG.out
  go_wp2_with (refine wpList_load_mid rfl 24 _ rfl w.heap.size 0 rfl _ _ l1 Tryd.underlying24 rfl infoGraph ?_)
  clear l1
  refine (fault_any P ea m ec f w1 (rows_keep HE.out HB.out) hm).mono ?_
  rintro e1 w11 ⟨rfl, hb⟩
  have HG := Lib.hid (HG.out.keep hb HG.out.lt)
  have HL := Lib.hid (HL.out.keep hb)
  have HB := Lib.hid (HB.out.trans (hb.mono HB.out.size))
  clear hb
  by_cases hg : gfault P m f = 0
  rotate_left
  · --{BAD
    have HC1 : Hid (chfault P m f [zs] = gfault P m f) := chfault_g hg
    have HZR : Hid (-1000 ≤ gfault P m f ∧ gfault P m f ≤ 1000) := gfault_small
    generalize gfault P m f = z at *
    have HZN := Lib.hid hg
    clear hg
    have q1 : (z == 0) = false := by rw [beq_eq_false_iff_ne]; exact HZN.out
    have l1 := row_range HG.out
    go_wp2_with (refine wpList_load_mid rfl 24 _ rfl w.heap.size 0 rfl _ _ l1 Tryd.underlying24 rfl infoGraph ?_)
    clear l1
    refine (rankP_any P ea m ec f da dn dc zs w11 (rows_keep HE.out HB.out) hm (HD.out.keep HB.out)).mono ?_
    rintro e1 w12 ⟨⟨hf, rfl⟩ | ⟨hf, _⟩ | ⟨hf, _⟩, hb⟩
    rotate_left
    · exact absurd (HC1.out.symm.trans hf) HZN.out
    · exact absurd (HC1.out.symm.trans hf) HZN.out
    have HG := Lib.hid (HG.out.keep hb HG.out.lt)
    have HL := Lib.hid (HL.out.keep hb)
    have HB := Lib.hid (HB.out.trans (hb.mono HB.out.size))
    clear hb hf
    rw [HC1.out]
    go_wp2_with fail
    refine (Tld.same_self z w12 HL.out HZR.out).mono ?_
    rintro e1 w13 ⟨rfl, hb⟩
    have HG := Lib.hid (HG.out.keep hb HG.out.lt)
    have HL := Lib.hid (HL.out.keep hb)
    have HB := Lib.hid (HB.out.trans (hb.mono HB.out.size))
    clear hb
    go_wp2_with fail
    refine (Ints.ints_any none none 0 0 0 0 [] [] w13 (Ints.Is.nil _) (Ints.Is.nil _)).mono ?_
    rintro e1 w14 ⟨rfl, hb⟩
    have HG := Lib.hid (HG.out.keep hb HG.out.lt)
    have HL := Lib.hid (HL.out.keep hb)
    have HB := Lib.hid (HB.out.trans (hb.mono HB.out.size))
    clear hb
    rw [decide_eq_true (rfl : ([] : List Int) = [])]
    go_wp2_with fail
    go_ret
    exact ⟨rfl, HB.out⟩
  obtain ⟨p, rfl, hok⟩ := gfault_zero hg
  rw [hg]
  have HGF := Lib.hid hg
  have HOK := Lib.hid hok
  have hp10 := hok.p10
  have HP1 : Hid (p ≤ maxLen) := by unfold maxLen; show _ ≤ _; omega
  clear hg hok
  have l1 := row_range HG.out
  go_wp2_with (refine wpList_load_mid rfl 24 _ rfl w.heap.size 0 rfl _ _ l1 Tryd.underlying24 rfl infoGraph ?_)
  clear l1
  refine (rdiv_any p ea m ec da dn dc zs w11 (HD.out.keep HB.out) hp10).mono ?_
  rintro e1 w15 ⟨rfl, hb⟩
  have HG := Lib.hid (HG.out.keep hb HG.out.lt)
  have HL := Lib.hid (HL.out.keep hb)
  have HB := Lib.hid (HB.out.trans (hb.mono HB.out.size))
  clear hb
  by_cases hd : dfault p zs = 0
  rotate_left
  · --{UNFIT
    have HC1 : Hid (chfault (p : Int) m f [zs] = dfault p zs) := by show _ = _; rw [chfault_l HGF.out, Int.toNat_natCast, lchk_one]
    have HZR : Hid (-1000 ≤ dfault p zs ∧ dfault p zs ≤ 1000) := dfault_small
    generalize dfault p zs = z at *
    have HZN := Lib.hid hd
    clear hd
    have q1 : (z == 0) = false := by rw [beq_eq_false_iff_ne]; exact HZN.out
    have l1 := row_range HG.out
    go_wp2_with (refine wpList_load_mid rfl 24 _ rfl w.heap.size 0 rfl _ _ l1 Tryd.underlying24 rfl infoGraph ?_)
    clear l1
    refine (rankP_any (p : Int) ea m ec f da dn dc zs w15 (rows_keep HE.out HB.out) hm (HD.out.keep HB.out)).mono ?_
    rintro e1 w16 ⟨⟨hf, rfl⟩ | ⟨hf, _⟩ | ⟨hf, _⟩, hb⟩
    rotate_left
    · exact absurd (HC1.out.symm.trans hf) HZN.out
    · exact absurd (HC1.out.symm.trans hf) HZN.out
    have HG := Lib.hid (HG.out.keep hb HG.out.lt)
    have HL := Lib.hid (HL.out.keep hb)
    have HB := Lib.hid (HB.out.trans (hb.mono HB.out.size))
    clear hb hf
    rw [HC1.out]
    go_wp2_with fail
    refine (Tld.same_self z w16 HL.out HZR.out).mono ?_
    rintro e1 w17 ⟨rfl, hb⟩
    have HG := Lib.hid (HG.out.keep hb HG.out.lt)
    have HL := Lib.hid (HL.out.keep hb)
    have HB := Lib.hid (HB.out.trans (hb.mono HB.out.size))
    clear hb
    go_wp2_with fail
    refine (Ints.ints_any none none 0 0 0 0 [] [] w17 (Ints.Is.nil _) (Ints.Is.nil _)).mono ?_
    rintro e1 w18 ⟨rfl, hb⟩
    have HG := Lib.hid (HG.out.keep hb HG.out.lt)
    have HL := Lib.hid (HL.out.keep hb)
    have HB := Lib.hid (HB.out.trans (hb.mono HB.out.size))
    clear hb
    rw [decide_eq_true (rfl : ([] : List Int) = [])]
    go_wp2_with fail
    go_ret
    exact ⟨rfl, HB.out⟩
  have HCF : Hid (chfault (p : Int) m f [zs] = 0) := ch_one HGF.out hd
  rw [hd]
  obtain ⟨hzl, hz⟩ := dfault_zero hd
  have hdp : dn = p := by rw [← HDL.out]; exact hzl
  subst hdp
  have HZ := Lib.hid hz
  clear hd hzl hz
  obtain ⟨s, hs⟩ : ∃ s, s = sumZ (fun k => zs.getD k 0) dn := ⟨_, rfl⟩
  have HS := Lib.hid hs
  have HSE : Hid (sumZ (fun k => zs.getD k 0) (dn : Int).toNat = s) := by show _ = _; rw [Int.toNat_natCast, HS.out]
  clear hs
  go_wp2_with fail
  refine (rsumZ_any da dn dc zs w15 (HD.out.keep HB.out) hp10).mono ?_
  rintro e1 w19 ⟨rfl, rfl⟩
  have g0 := HG.out.cell 0
  dsimp only [List.getElem?_cons_zero] at g0
  rw [wrap_sum hp10 (wide HZ.out), ← HS.out]
  by_cases h6 : (6 : Int) < (dn : Int)
  · --{MANY
    have l1 := row_range HG.out
    go_wp2_with (refine wpList_load_mid rfl 24 _ rfl w.heap.size 0 rfl _ _ l1 Tryd.underlying24 rfl infoGraph ?_)
    clear l1
    refine (rankP_any (dn : Int) ea m ec f da dn dc zs w19 (rows_keep HE.out HB.out) hm (HD.out.keep HB.out)).mono ?_
    rintro e1 w20 ⟨⟨hf, rfl⟩ | ⟨hf, _, rfl⟩ | ⟨hf, h1, h2, _⟩, hb⟩
    · exact absurd HCF.out hf
    rotate_left
    · rw [HSE.out] at h2
      omega
    have HG := Lib.hid (HG.out.keep hb HG.out.lt)
    have HL := Lib.hid (HL.out.keep hb)
    have HB := Lib.hid (HB.out.trans (hb.mono HB.out.size))
    clear hb hf g0
    go_wp2_with fail
    refine (Tld.same_self 4 w20 HL.out (by omega)).mono ?_
    rintro e1 w21 ⟨rfl, hb⟩
    have HG := Lib.hid (HG.out.keep hb HG.out.lt)
    have HL := Lib.hid (HL.out.keep hb)
    have HB := Lib.hid (HB.out.trans (hb.mono HB.out.size))
    clear hb
    go_wp2_with fail
    refine (Ints.ints_any none none 0 0 0 0 [] [] w21 (Ints.Is.nil _) (Ints.Is.nil _)).mono ?_
    rintro e1 w22 ⟨rfl, hb⟩
    have HG := Lib.hid (HG.out.keep hb HG.out.lt)
    have HL := Lib.hid (HL.out.keep hb)
    have HB := Lib.hid (HB.out.trans (hb.mono HB.out.size))
    clear hb
    rw [decide_eq_true (rfl : ([] : List Int) = [])]
    go_wp2_with fail
    go_ret
    exact ⟨rfl, HB.out⟩
  by_cases h12 : 12 < s
  · --{FULL
    have l1 := row_range HG.out
    go_wp2_with (refine wpList_load_mid rfl 24 _ rfl w.heap.size 0 rfl _ _ l1 Tryd.underlying24 rfl infoGraph ?_)
    clear l1
    refine (rankP_any (dn : Int) ea m ec f da dn dc zs w19 (rows_keep HE.out HB.out) hm (HD.out.keep HB.out)).mono ?_
    rintro e1 w23 ⟨⟨hf, rfl⟩ | ⟨hf, _, rfl⟩ | ⟨hf, h1, h2, _⟩, hb⟩
    · exact absurd HCF.out hf
    rotate_left
    · rw [HSE.out] at h2
      omega
    have HG := Lib.hid (HG.out.keep hb HG.out.lt)
    have HL := Lib.hid (HL.out.keep hb)
    have HB := Lib.hid (HB.out.trans (hb.mono HB.out.size))
    clear hb hf g0
    go_wp2_with fail
    refine (Tld.same_self 4 w23 HL.out (by omega)).mono ?_
    rintro e1 w24 ⟨rfl, hb⟩
    have HG := Lib.hid (HG.out.keep hb HG.out.lt)
    have HL := Lib.hid (HL.out.keep hb)
    have HB := Lib.hid (HB.out.trans (hb.mono HB.out.size))
    clear hb
    go_wp2_with fail
    refine (Ints.ints_any none none 0 0 0 0 [] [] w24 (Ints.Is.nil _) (Ints.Is.nil _)).mono ?_
    rintro e1 w25 ⟨rfl, hb⟩
    have HG := Lib.hid (HG.out.keep hb HG.out.lt)
    have HL := Lib.hid (HL.out.keep hb)
    have HB := Lib.hid (HB.out.trans (hb.mono HB.out.size))
    clear hb
    rw [decide_eq_true (rfl : ([] : List Int) = [])]
    go_wp2_with fail
    go_ret
    exact ⟨rfl, HB.out⟩
  have l1 := row_range HG.out
  go_wp2_with (refine wpList_load_mid rfl 24 _ rfl w.heap.size 0 rfl _ _ l1 Tryd.underlying24 rfl infoGraph ?_)
  clear l1
  refine (rankP_any (dn : Int) ea m ec f da dn dc zs w19 (rows_keep HE.out HB.out) hm (HD.out.keep HB.out)).mono ?_
  rintro e1 w26 ⟨⟨hf, rfl⟩ | ⟨hf, h1, rfl⟩ | ⟨hf, _, _, p', k, c, a, g, hp', _, hrk, rfl, hi⟩, hb⟩
  · exact absurd HCF.out hf
  · rw [HSE.out] at h1
    omega
  obtain rfl : dn = p' := by omega
  have HI := Lib.hid hi
  have HRK := Lib.hid hrk
  have HG := Lib.hid (HG.out.keep hb HG.out.lt)
  have HL := Lib.hid (HL.out.keep hb)
  have HB := Lib.hid (HB.out.trans (hb.mono HB.out.size))
  clear hb hf hp' hi hrk g0
  go_wp2_with fail
  refine (Tld.same_nil w26 HL.out).mono ?_
  rintro e1 w27 ⟨rfl, hb⟩
  have HG := Lib.hid (HG.out.keep hb HG.out.lt)
  have HL := Lib.hid (HL.out.keep hb)
  have HI := Lib.hid (HI.out.keep hb)
  have HB := Lib.hid (HB.out.trans (hb.mono HB.out.size))
  clear hb
  have l1 := row_range HG.out
  go_wp2_with (refine wpList_load_mid rfl 24 _ rfl w.heap.size 0 rfl _ _ l1 Tryd.underlying24 rfl infoGraph ?_)
  clear l1
  refine (rrank_any dn m ea ec f da dc zs w27 (rows_keep HE.out HB.out) HOK.out (HD.out.keep HB.out) HZ.out (by rw [← HS.out]; omega)).mono ?_
  rintro e1 w28 ⟨⟨k', b2, c2, g', rfl, hrk2, hv2⟩, hb⟩
  obtain ⟨rfl, hgg⟩ := HRK.out.unique hrk2
  have HSM : Hid (lstF dn g = lstF dn g') := lstF_congr hgg
  have HV2 := Lib.hid (hv2.is HP1.out)
  have HG := Lib.hid (HG.out.keep hb HG.out.lt)
  have HL := Lib.hid (HL.out.keep hb)
  have HI := Lib.hid (HI.out.keep hb)
  have HB := Lib.hid (HB.out.trans (hb.mono HB.out.size))
  clear hb hrk2 hv2 hgg
  go_wp2_with fail
  refine (Ints.ints_any _ _ dn dn c c2 (lstF dn g) (lstF dn g') w28 HI.out HV2.out).mono ?_
  rintro e1 w29 ⟨rfl, hb⟩
  have HG := Lib.hid (HG.out.keep hb HG.out.lt)
  have HL := Lib.hid (HL.out.keep hb)
  have HB := Lib.hid (HB.out.trans (hb.mono HB.out.size))
  clear hb HI HV2
  rw [decide_eq_true HSM.out]
  clear HSM HRK
  obtain ⟨r, hr⟩ : ∃ r, r = (k : Int) - 1 := ⟨_, rfl⟩
  rw [← hr]
  clear hr
  have q5 : (r == r) = true := beq_self_eq_true _
  go_wp2_with fail
  go_ret
  exact ⟨rfl, HB.out⟩
end Ch
end Go.Proofs.YtjikildiblchpaaDoor
