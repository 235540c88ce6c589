/- THE LAW RotorRoutes: its walk, out of its callees' contracts. Printed by gens/rfroutes.py. -/
import Derived.Test.YtjikildiblchpaaDoorRfR
import Derived.Test.YtjikildiblchpaaDoorRfK
import Derived.Test.YtjikildiblchpaaDoorRfH
import Derived.Test.YtjikildiblchpaaDoorRfU
import Derived.Test.YtjikildiblchpaaDoorRfS
import Derived.Test.YtjikildiblchpaaDoorRtT
import Derived.Test.YtjikildiblchpaaDoorSame
namespace Go.Proofs.YtjikildiblchpaaDoor
set_option linter.unusedSimpArgs false
set_option linter.unusedVariables false
open Go.RowKit Go.Lib
namespace Rt
open Tld Mem

theorem sfault_small {P : Int} {m : Nat} {f : Nat → Nat → Int} {sink : Int} {sz : List Int} : -1000 ≤ sfault P m f sink sz ∧ sfault P m f sink sz ≤ 1000 := by
  unfold sfault
  split
  · rcases gfault_cases (P := P) (m := m) (f := f) with h | h | h | h <;> rw [h] <;> decide
  · split
    · decide
    · split
      · decide
      · split <;> decide
theorem cfault_small {p s : Nat} {cs : List Int} : -1000 ≤ cfault p s cs ∧ cfault p s cs ≤ 1000 := by
  unfold cfault
  split
  · decide
  · split <;> decide
theorem walkL_small {P s : Nat} {B : Bd} {sg c : Nat → Nat} : ∀ {l : List Int} {u : Nat → Nat} {z : Int}, walkL P s B sg c u l = .error z → -1000 ≤ z ∧ z ≤ 1000
  | [], _, _, h => by unfold walkL at h; cases h
  | k :: l, u, z, h => by
    unfold walkL at h
    split at h
    · cases h; decide
    · split at h
      · cases h; decide
      · exact walkL_small h

set_option maxHeartbeats 16000000 in
set_option maxRecDepth 1000000 in
theorem rotorRoutes_any (P sink : Int) (ea : Option Addr) (m ec : Nat) (f : Nat → Nat → Int) (sa : Option Addr) (sn sc : Nat) (sz : List Int) (ca : Option Addr) (cn cc : Nat) (cz : List Int) (oa : Option Addr) (on oc : Nat) (oz : List Int) (w : World) (hL : Laid w) (hE : Mem.Rows w ea m 3 (fun i j => .int .i64 (f i j))) (hm : m ≤ 9223372036854775807) (hS : Ints.Is w sa sn sz) (hsnil : sa = none → sn = 0) (hC : Ints.Is w ca cn cz) (hcn : cn * 8 ≤ 140737488355328) (hcnil : ca = none → cn = 0) (hO : Ints.Is w oa on oz) :
    Calls Tryd.prog 3 #[.agg #[.int .i64 P, .slice ea m ec], .int .i64 sink, .slice sa sn sc, .slice ca cn cc, .slice oa on oc] w fun e w' => e = .returned (.bool true) ∧ Below w.heap.size w w' := by
  have HE := Lib.hid hE
  have HS := Lib.hid hS
  have HC := Lib.hid hC
  have HO := Lib.hid hO
  have HSN := Lib.hid hsnil
  have HCN := Lib.hid hcnil
  have hcl := hC.len
  have hsl := hS.len
  have HCLN := Lib.hid hcl
  have HSLN := Lib.hid hsl
  clear hE hS hC hO hsnil hcnil hcl hsl
  go_enter Tryd.func3, Tryd.ntmps3
  go_upto_region 1 with fail
  have hR : Row (w.alloc (.cells #[.int .i64 P, .slice ea m ec] 24)) w.heap.size 24 [.int .i64 P, .slice ea m ec] := row_alloc w _ _
  have hb : Below w.heap.size w (w.alloc (.cells #[.int .i64 P, .slice ea m ec] 24)) := (Below.refl _ _).alloc (Nat.le_refl _) _
  have HG := Lib.hid hR
  have HB := Lib.hid hb
  have HL := Lib.hid (hL.keep hb)
  clear hR hb hL
  generalize w.alloc (.cells #[.int .i64 P, .slice ea m ec] 24) = w1 at *
  have l1 := row_range HG.out
  go_wp2_with (refine wpList_load_mid rfl 24 _ rfl w.heap.size 0 rfl _ _ l1 Tryd.underlying24 rfl infoGraph ?_)
  clear l1
  refine (rsigns_any P sink ea m ec f sa sn sc sz w1 (rows_keep HE.out HB.out) hm (HS.out.keep HB.out)).mono ?_
  rintro e1 w2 ⟨rfl, hb⟩
  have HG := Lib.hid (HG.out.keep hb HG.out.lt)
  have HL := Lib.hid (HL.out.keep hb)
  have HB := Lib.hid (HB.out.trans (hb.mono HB.out.size))
  clear hb
  by_cases hz0 : sfault P m f sink sz = 0
  · --{FINE
    rw [hz0]
    have HZ0 := Lib.hid hz0
    clear hz0
    have l1 := row_range HG.out
    go_wp2_with (refine wpList_load_mid rfl 24 _ rfl w.heap.size 0 rfl _ _ l1 Tryd.underlying24 rfl infoGraph ?_)
    clear l1
    refine (tree_any P sink ea m ec f sa sn sc sz w2 (rows_keep HE.out HB.out) hm (HS.out.keep HB.out) HSN.out).mono ?_
    rintro e1 w3 ⟨⟨hf, rfl⟩ | ⟨hf, p, s, b, rfl, rfl, hsp, hok, hszl, hsg, hbt, rfl⟩, hb⟩
    · exact absurd HZ0.out hf
    have HG := Lib.hid (HG.out.keep hb HG.out.lt)
    have HL := Lib.hid (HL.out.keep hb)
    have HB := Lib.hid (HB.out.trans (hb.mono HB.out.size))
    have HOK := Lib.hid hok
    have HSG := Lib.hid hsg
    have HBT := Lib.hid hbt
    have hsp1 : sn = p := by rw [← HSLN.out]; exact hszl
    subst hsp1
    clear hb hf hok hszl hsg hbt
    go_wp2_with fail
    refine (Tld.same_nil w3 HL.out).mono ?_
    rintro e1 w4 ⟨rfl, hb⟩
    have HG := Lib.hid (HG.out.keep hb HG.out.lt)
    have HL := Lib.hid (HL.out.keep hb)
    have HB := Lib.hid (HB.out.trans (hb.mono HB.out.size))
    clear hb
    have l1 := row_range HG.out
    go_wp2_with (refine wpList_load_mid rfl 24 _ rfl w.heap.size 0 rfl _ _ l1 Tryd.underlying24 rfl infoGraph ?_)
    clear l1
    refine (rtree_any sn s m ea ec f sa sc sz w4 (rows_keep HE.out HB.out) (HS.out.keep HB.out) HOK.out hsp HSG.out).mono ?_
    rintro e1 w5 ⟨⟨b2, hb2, rfl⟩, hb⟩
    have HG := Lib.hid (HG.out.keep hb HG.out.lt)
    have HL := Lib.hid (HL.out.keep hb)
    have HB := Lib.hid (HB.out.trans (hb.mono HB.out.size))
    obtain rfl : b2 = b := by
      have h1 := HBT.out
      cases b <;> cases b2
      · rfl
      · exact absurd (h1.2 (hb2.1 rfl)) (by decide)
      · exact absurd (hb2.2 (h1.1 rfl)) (by decide)
      · rfl
    clear hb hb2 HBT
    have qb : (b2 != b2) = false := bne_self_eq_false _
    have l1 := row_range HG.out
    go_wp2_with (refine wpList_load_mid rfl 24 _ rfl w.heap.size 0 rfl _ _ l1 Tryd.underlying24 rfl infoGraph ?_)
    clear l1
    refine (rlaid_any sn s ea m ec ca cn cc cz w5 (HC.out.keep HB.out) hsp).mono ?_
    rintro e1 w6 ⟨rfl, hb⟩
    have HG := Lib.hid (HG.out.keep hb HG.out.lt)
    have HL := Lib.hid (HL.out.keep hb)
    have HB := Lib.hid (HB.out.trans (hb.mono HB.out.size))
    have HBF : Hid (bfault (sn : Int) m f (s : Int) sz cz = cfault sn s cz) := by
      show _ = _
      rw [bfault_c HZ0.out, Int.toNat_natCast, Int.toNat_natCast]
    have HZR : Hid (-1000 ≤ cfault sn s cz ∧ cfault sn s cz ≤ 1000) := cfault_small
    clear hb
    by_cases hc0 : cfault sn s cz = 0
    · --{CHIPS
      have HC0 := Lib.hid hc0
      rw [hc0]
      obtain ⟨hczl, hcs, hck⟩ := chips_ok hc0 hsp
      have hcp : cn = sn := by rw [← HCLN.out]; exact hczl
      subst hcp
      have hp10 := HOK.out.p10
      have HCK := Lib.hid hck
      clear hc0 hczl hcs hck HZR
      have HZR : Hid (∀ z : Int, z = 4 → -1000 ≤ z ∧ z ≤ 1000) := fun z h => by omega
      go_wp2_with fail
      refine (rsum_any ca cn cc cz w6 (HC.out.keep HB.out) hp10 HCK.out).mono ?_
      rintro e1 w7 ⟨rfl, rfl⟩
      obtain ⟨tot, htot⟩ : ∃ t, t = sumN (sgN cz) cn := ⟨_, rfl⟩
      rw [← htot]
      have HTOT := Lib.hid htot
      clear htot
      by_cases hfull : 1000 < tot
      · --{FULL
        have d1 : (1000 : Int) < (tot : Int) := by omega
        have HFU : Hid (1000 < sumN (sgN cz) cn) := by rw [← HTOT.out]; exact hfull
        clear hfull
        have l1 := row_range HG.out
        go_wp2_with (refine wpList_load_mid rfl 24 _ rfl w.heap.size 0 rfl _ _ l1 Tryd.underlying24 rfl infoGraph ?_)
        clear l1
        refine (route_any cn s ea m ec f sa cn sc sz ca cn cc cz w7 (rows_keep HE.out HB.out) hm (HS.out.keep HB.out) (HC.out.keep HB.out) hcn HSN.out HCN.out).mono ?_
        rintro e1 w8 ⟨⟨hf, rfl⟩ | ⟨hf, hq, rfl⟩ | ⟨hf, hq, hrest⟩, hb⟩
        · exact absurd (HBF.out.trans HC0.out) hf
        rotate_left
        · rw [Int.toNat_natCast] at hq
          exact absurd hq (Nat.not_le_of_lt HFU.out)
        have HG := Lib.hid (HG.out.keep hb HG.out.lt)
        have HL := Lib.hid (HL.out.keep hb)
        have HB := Lib.hid (HB.out.trans (hb.mono HB.out.size))
        clear hb hf hq d1
        go_wp2_with fail
        refine (Tld.same_self 4 w8 HL.out (by omega)).mono ?_
        rintro e1 w9 ⟨rfl, hb⟩
        have HG := Lib.hid (HG.out.keep hb HG.out.lt)
        have HL := Lib.hid (HL.out.keep hb)
        have HB := Lib.hid (HB.out.trans (hb.mono HB.out.size))
        clear hb
        go_wp2_with fail
        refine (Ints.ints_any none none 0 0 0 0 [] [] w9 (Ints.Is.nil _) (Ints.Is.nil _)).mono ?_
        rintro e1 w10 ⟨rfl, hb⟩
        have HG := Lib.hid (HG.out.keep hb HG.out.lt)
        have HL := Lib.hid (HL.out.keep hb)
        have HB := Lib.hid (HB.out.trans (hb.mono HB.out.size))
        clear hb
        rw [decide_eq_true (rfl : ([] : List Int) = [])]
        go_wp2_with fail
        refine (Ints.ints_any none none 0 0 0 0 [] [] w10 (Ints.Is.nil _) (Ints.Is.nil _)).mono ?_
        rintro e1 w11 ⟨rfl, hb⟩
        have HG := Lib.hid (HG.out.keep hb HG.out.lt)
        have HL := Lib.hid (HL.out.keep hb)
        have HB := Lib.hid (HB.out.trans (hb.mono HB.out.size))
        clear hb
        rw [decide_eq_true (rfl : ([] : List Int) = [])]
        --{THIRD
        have l1 := row_range HG.out
        go_wp2_with (refine wpList_load_mid rfl 24 _ rfl w.heap.size 0 rfl _ _ l1 Tryd.underlying24 rfl infoGraph ?_)
        clear l1
        refine (rwalk_any cn s m ea ec f sa sc sz ca cc cz oa on oc oz w11 (rows_keep HE.out HB.out) (HS.out.keep HB.out) (HC.out.keep HB.out) (HO.out.keep HB.out) HOK.out hsp HSG.out HC0.out).mono ?_
        rintro e1 w12 ⟨⟨z, hz, hwz, rfl⟩ | ⟨b1, c1, b2, c2, u, hwu, rfl, hi1, hi2⟩, hb⟩
        · skip
          have HG := Lib.hid (HG.out.keep hb HG.out.lt)
          have HL := Lib.hid (HL.out.keep hb)
          have HB := Lib.hid (HB.out.trans (hb.mono HB.out.size))
          have HWZ := Lib.hid hwz
          have HZN := Lib.hid hz
          have HZS := Lib.hid (walkL_small hwz)
          clear hz hwz hb
          have l1 := row_range HG.out
          go_wp2_with (refine wpList_load_mid rfl 24 _ rfl w.heap.size 0 rfl _ _ l1 Tryd.underlying24 rfl infoGraph ?_)
          clear l1
          refine (walk_any cn s ea m ec f sa cn sc sz ca cn cc cz oa on oc oz w12 (rows_keep HE.out HB.out) hm (HS.out.keep HB.out) (HC.out.keep HB.out) hcn HSN.out HCN.out (HO.out.keep HB.out)).mono ?_
          rintro e1 w13 ⟨⟨hf, rfl⟩ | ⟨hf, p', s', hp', hs', _, _, _, _, _, _, ⟨z', hz', hwz', rfl⟩ | ⟨b3, c3, b4, c4, u', hwu', _, _, _, rfl, hi3, hi4⟩⟩, hb⟩
          · exact absurd (HBF.out.trans HC0.out) hf
          · skip
            have HG := Lib.hid (HG.out.keep hb HG.out.lt)
            have HL := Lib.hid (HL.out.keep hb)
            have HB := Lib.hid (HB.out.trans (hb.mono HB.out.size))
            obtain rfl : cn = p' := by omega
            obtain rfl : s = s' := by omega
            have hzz : z' = z := by
              have h1 := hwz'.symm.trans HWZ.out
              cases h1
              rfl
            rw [hzz]
            clear hb hf hwz' hz' hzz
            go_wp2_with fail
            refine (Tld.same_self z w13 HL.out HZS.out).mono ?_
            rintro e1 w14 ⟨rfl, hb⟩
            have HG := Lib.hid (HG.out.keep hb HG.out.lt)
            have HL := Lib.hid (HL.out.keep hb)
            have HB := Lib.hid (HB.out.trans (hb.mono HB.out.size))
            clear hb
            go_wp2_with fail
            refine (Ints.ints_any none none 0 0 0 0 [] [] w14 (Ints.Is.nil _) (Ints.Is.nil _)).mono ?_
            rintro e1 w15 ⟨rfl, hb⟩
            have HG := Lib.hid (HG.out.keep hb HG.out.lt)
            have HL := Lib.hid (HL.out.keep hb)
            have HB := Lib.hid (HB.out.trans (hb.mono HB.out.size))
            clear hb
            rw [decide_eq_true (rfl : ([] : List Int) = [])]
            go_wp2_with fail
            refine (Ints.ints_any none none 0 0 0 0 [] [] w15 (Ints.Is.nil _) (Ints.Is.nil _)).mono ?_
            rintro e1 w16 ⟨rfl, hb⟩
            have HG := Lib.hid (HG.out.keep hb HG.out.lt)
            have HL := Lib.hid (HL.out.keep hb)
            have HB := Lib.hid (HB.out.trans (hb.mono HB.out.size))
            clear hb
            rw [decide_eq_true (rfl : ([] : List Int) = [])]
            go_wp2_with fail
            go_ret
            exact ⟨rfl, HB.out⟩
          · obtain rfl : cn = p' := by omega
            obtain rfl : s = s' := by omega
            have h1 := hwu'.symm.trans HWZ.out
            cases h1
        · skip
          have HG := Lib.hid (HG.out.keep hb HG.out.lt)
          have HL := Lib.hid (HL.out.keep hb)
          have HB := Lib.hid (HB.out.trans (hb.mono HB.out.size))
          have HWU := Lib.hid hwu
          have HI1 := Lib.hid hi1
          have HI2 := Lib.hid hi2
          clear hwu hi1 hi2 hb
          have l1 := row_range HG.out
          go_wp2_with (refine wpList_load_mid rfl 24 _ rfl w.heap.size 0 rfl _ _ l1 Tryd.underlying24 rfl infoGraph ?_)
          clear l1
          refine (walk_any cn s ea m ec f sa cn sc sz ca cn cc cz oa on oc oz w12 (rows_keep HE.out HB.out) hm (HS.out.keep HB.out) (HC.out.keep HB.out) hcn HSN.out HCN.out (HO.out.keep HB.out)).mono ?_
          rintro e1 w17 ⟨⟨hf, rfl⟩ | ⟨hf, p', s', hp', hs', _, _, _, _, _, _, ⟨z', hz', hwz', rfl⟩ | ⟨b3, c3, b4, c4, u', hwu', _, _, _, rfl, hi3, hi4⟩⟩, hb⟩
          · exact absurd (HBF.out.trans HC0.out) hf
          · obtain rfl : cn = p' := by omega
            obtain rfl : s = s' := by omega
            have h1 := hwz'.symm.trans HWU.out
            cases h1
          · skip
            obtain rfl : cn = p' := by omega
            obtain rfl : s = s' := by omega
            have huu : u' = u := by
              have h1 := hwu'.symm.trans HWU.out
              cases h1
              rfl
            rw [huu] at hi3 hi4
            have HI1 := Lib.hid (HI1.out.keep hb)
            have HI2 := Lib.hid (HI2.out.keep hb)
            have HI3 := Lib.hid hi3
            have HI4 := Lib.hid hi4
            have HG := Lib.hid (HG.out.keep hb HG.out.lt)
            have HL := Lib.hid (HL.out.keep hb)
            have HB := Lib.hid (HB.out.trans (hb.mono HB.out.size))
            clear hb hf hwu' huu hi3 hi4
            go_wp2_with fail
            refine (Tld.same_nil w17 HL.out).mono ?_
            rintro e1 w18 ⟨rfl, hb⟩
            have HI1 := Lib.hid (HI1.out.keep hb)
            have HI2 := Lib.hid (HI2.out.keep hb)
            have HI3 := Lib.hid (HI3.out.keep hb)
            have HI4 := Lib.hid (HI4.out.keep hb)
            have HG := Lib.hid (HG.out.keep hb HG.out.lt)
            have HL := Lib.hid (HL.out.keep hb)
            have HB := Lib.hid (HB.out.trans (hb.mono HB.out.size))
            clear hb
            go_wp2_with fail
            refine (Ints.ints_any _ _ cn cn c3 c1 _ _ w18 HI3.out HI1.out).mono ?_
            rintro e1 w19 ⟨rfl, hb⟩
            have HI2 := Lib.hid (HI2.out.keep hb)
            have HI4 := Lib.hid (HI4.out.keep hb)
            have HG := Lib.hid (HG.out.keep hb HG.out.lt)
            have HL := Lib.hid (HL.out.keep hb)
            have HB := Lib.hid (HB.out.trans (hb.mono HB.out.size))
            clear hb HI1 HI3
            rw [decide_eq_true rfl]
            go_wp2_with fail
            refine (Ints.ints_any _ _ cn cn c4 c2 _ _ w19 HI4.out HI2.out).mono ?_
            rintro e1 w20 ⟨rfl, hb⟩
            have HG := Lib.hid (HG.out.keep hb HG.out.lt)
            have HL := Lib.hid (HL.out.keep hb)
            have HB := Lib.hid (HB.out.trans (hb.mono HB.out.size))
            clear hb HI2 HI4
            rw [decide_eq_true rfl]
            go_wp2_with fail
            go_ret
            exact ⟨rfl, HB.out⟩
      · --{RUN
        have d1 : ¬ (1000 : Int) < (tot : Int) := by omega
        have HFU : Hid (sumN (sgN cz) cn ≤ 1000) := by rw [← HTOT.out]; show _ ≤ _; omega
        clear hfull
        have l1 := row_range HG.out
        go_wp2_with (refine wpList_load_mid rfl 24 _ rfl w.heap.size 0 rfl _ _ l1 Tryd.underlying24 rfl infoGraph ?_)
        clear l1
        refine (route_any cn s ea m ec f sa cn sc sz ca cn cc cz w7 (rows_keep HE.out HB.out) hm (HS.out.keep HB.out) (HC.out.keep HB.out) hcn HSN.out HCN.out).mono ?_
        rintro e1 w21 ⟨⟨hf, rfl⟩ | ⟨hf, hq, rfl⟩ | ⟨hf, hq, p', s', b3, c3, b4, c4, u', hp', hs', _, _, _, _, _, _, hleg, hdone, rfl, hi3, hi4⟩, hb⟩
        · exact absurd (HBF.out.trans HC0.out) hf
        · rw [Int.toNat_natCast] at hq
          exact absurd hq (Nat.not_lt_of_le HFU.out)
        obtain rfl : cn = p' := by omega
        obtain rfl : s = s' := by omega
        have HLG := Lib.hid hleg
        have HDN := Lib.hid hdone
        have HI3 := Lib.hid hi3
        have HI4 := Lib.hid hi4
        have HG := Lib.hid (HG.out.keep hb HG.out.lt)
        have HL := Lib.hid (HL.out.keep hb)
        have HB := Lib.hid (HB.out.trans (hb.mono HB.out.size))
        clear hb hf hq d1 hp' hs' hleg hdone hi3 hi4
        go_wp2_with fail
        refine (Tld.same_nil w21 HL.out).mono ?_
        rintro e1 w22 ⟨rfl, hb⟩
        have HI3 := Lib.hid (HI3.out.keep hb)
        have HI4 := Lib.hid (HI4.out.keep hb)
        have HG := Lib.hid (HG.out.keep hb HG.out.lt)
        have HL := Lib.hid (HL.out.keep hb)
        have HB := Lib.hid (HB.out.trans (hb.mono HB.out.size))
        clear hb
        have l1 := row_range HG.out
        go_wp2_with (refine wpList_load_mid rfl 24 _ rfl w.heap.size 0 rfl _ _ l1 Tryd.underlying24 rfl infoGraph ?_)
        clear l1
        refine (rroute_any cn s m ea ec f sa sc sz ca cc cz w22 (rows_keep HE.out HB.out) (HS.out.keep HB.out) (HC.out.keep HB.out) HOK.out hsp HSG.out HC0.out HFU.out).mono ?_
        rintro e1 w23 ⟨b1, c1, b2, c2, u, rfl, hleg, hdone, hi1, hi2, hb⟩
        have huu : u = u' := (hleg.unique hdone HLG.out HDN.out).symm
        rw [huu] at hi1 hi2
        have HI1 := Lib.hid hi1
        have HI2 := Lib.hid hi2
        have HI3 := Lib.hid (HI3.out.keep hb)
        have HI4 := Lib.hid (HI4.out.keep hb)
        have HG := Lib.hid (HG.out.keep hb HG.out.lt)
        have HL := Lib.hid (HL.out.keep hb)
        have HB := Lib.hid (HB.out.trans (hb.mono HB.out.size))
        clear hb hleg hdone huu hi1 hi2 u HLG HDN
        go_wp2_with fail
        refine (Ints.ints_any _ _ cn cn c3 c1 _ _ w23 HI3.out HI1.out).mono ?_
        rintro e1 w24 ⟨rfl, hb⟩
        have HI2 := Lib.hid (HI2.out.keep hb)
        have HI4 := Lib.hid (HI4.out.keep hb)
        have HG := Lib.hid (HG.out.keep hb HG.out.lt)
        have HL := Lib.hid (HL.out.keep hb)
        have HB := Lib.hid (HB.out.trans (hb.mono HB.out.size))
        clear hb HI1 HI3
        rw [decide_eq_true rfl]
        go_wp2_with fail
        refine (Ints.ints_any _ _ cn cn c4 c2 _ _ w24 HI4.out HI2.out).mono ?_
        rintro e1 w25 ⟨rfl, hb⟩
        have HG := Lib.hid (HG.out.keep hb HG.out.lt)
        have HL := Lib.hid (HL.out.keep hb)
        have HB := Lib.hid (HB.out.trans (hb.mono HB.out.size))
        clear hb HI2 HI4
        rw [decide_eq_true rfl]
        --{THIRD
        have l1 := row_range HG.out
        go_wp2_with (refine wpList_load_mid rfl 24 _ rfl w.heap.size 0 rfl _ _ l1 Tryd.underlying24 rfl infoGraph ?_)
        clear l1
        refine (rwalk_any cn s m ea ec f sa sc sz ca cc cz oa on oc oz w25 (rows_keep HE.out HB.out) (HS.out.keep HB.out) (HC.out.keep HB.out) (HO.out.keep HB.out) HOK.out hsp HSG.out HC0.out).mono ?_
        rintro e1 w26 ⟨⟨z, hz, hwz, rfl⟩ | ⟨b1, c1, b2, c2, u, hwu, rfl, hi1, hi2⟩, hb⟩
        · skip
          have HG := Lib.hid (HG.out.keep hb HG.out.lt)
          have HL := Lib.hid (HL.out.keep hb)
          have HB := Lib.hid (HB.out.trans (hb.mono HB.out.size))
          have HWZ := Lib.hid hwz
          have HZN := Lib.hid hz
          have HZS := Lib.hid (walkL_small hwz)
          clear hz hwz hb
          have l1 := row_range HG.out
          go_wp2_with (refine wpList_load_mid rfl 24 _ rfl w.heap.size 0 rfl _ _ l1 Tryd.underlying24 rfl infoGraph ?_)
          clear l1
          refine (walk_any cn s ea m ec f sa cn sc sz ca cn cc cz oa on oc oz w26 (rows_keep HE.out HB.out) hm (HS.out.keep HB.out) (HC.out.keep HB.out) hcn HSN.out HCN.out (HO.out.keep HB.out)).mono ?_
          rintro e1 w27 ⟨⟨hf, rfl⟩ | ⟨hf, p', s', hp', hs', _, _, _, _, _, _, ⟨z', hz', hwz', rfl⟩ | ⟨b3, c3, b4, c4, u', hwu', _, _, _, rfl, hi3, hi4⟩⟩, hb⟩
          · exact absurd (HBF.out.trans HC0.out) hf
          · skip
            have HG := Lib.hid (HG.out.keep hb HG.out.lt)
            have HL := Lib.hid (HL.out.keep hb)
            have HB := Lib.hid (HB.out.trans (hb.mono HB.out.size))
            obtain rfl : cn = p' := by omega
            obtain rfl : s = s' := by omega
            have hzz : z' = z := by
              have h1 := hwz'.symm.trans HWZ.out
              cases h1
              rfl
            rw [hzz]
            clear hb hf hwz' hz' hzz
            go_wp2_with fail
            refine (Tld.same_self z w27 HL.out HZS.out).mono ?_
            rintro e1 w28 ⟨rfl, hb⟩
            have HG := Lib.hid (HG.out.keep hb HG.out.lt)
            have HL := Lib.hid (HL.out.keep hb)
            have HB := Lib.hid (HB.out.trans (hb.mono HB.out.size))
            clear hb
            go_wp2_with fail
            refine (Ints.ints_any none none 0 0 0 0 [] [] w28 (Ints.Is.nil _) (Ints.Is.nil _)).mono ?_
            rintro e1 w29 ⟨rfl, hb⟩
            have HG := Lib.hid (HG.out.keep hb HG.out.lt)
            have HL := Lib.hid (HL.out.keep hb)
            have HB := Lib.hid (HB.out.trans (hb.mono HB.out.size))
            clear hb
            rw [decide_eq_true (rfl : ([] : List Int) = [])]
            go_wp2_with fail
            refine (Ints.ints_any none none 0 0 0 0 [] [] w29 (Ints.Is.nil _) (Ints.Is.nil _)).mono ?_
            rintro e1 w30 ⟨rfl, hb⟩
            have HG := Lib.hid (HG.out.keep hb HG.out.lt)
            have HL := Lib.hid (HL.out.keep hb)
            have HB := Lib.hid (HB.out.trans (hb.mono HB.out.size))
            clear hb
            rw [decide_eq_true (rfl : ([] : List Int) = [])]
            go_wp2_with fail
            go_ret
            exact ⟨rfl, HB.out⟩
          · obtain rfl : cn = p' := by omega
            obtain rfl : s = s' := by omega
            have h1 := hwu'.symm.trans HWZ.out
            cases h1
        · skip
          have HG := Lib.hid (HG.out.keep hb HG.out.lt)
          have HL := Lib.hid (HL.out.keep hb)
          have HB := Lib.hid (HB.out.trans (hb.mono HB.out.size))
          have HWU := Lib.hid hwu
          have HI1 := Lib.hid hi1
          have HI2 := Lib.hid hi2
          clear hwu hi1 hi2 hb
          have l1 := row_range HG.out
          go_wp2_with (refine wpList_load_mid rfl 24 _ rfl w.heap.size 0 rfl _ _ l1 Tryd.underlying24 rfl infoGraph ?_)
          clear l1
          refine (walk_any cn s ea m ec f sa cn sc sz ca cn cc cz oa on oc oz w26 (rows_keep HE.out HB.out) hm (HS.out.keep HB.out) (HC.out.keep HB.out) hcn HSN.out HCN.out (HO.out.keep HB.out)).mono ?_
          rintro e1 w31 ⟨⟨hf, rfl⟩ | ⟨hf, p', s', hp', hs', _, _, _, _, _, _, ⟨z', hz', hwz', rfl⟩ | ⟨b3, c3, b4, c4, u', hwu', _, _, _, rfl, hi3, hi4⟩⟩, hb⟩
          · exact absurd (HBF.out.trans HC0.out) hf
          · obtain rfl : cn = p' := by omega
            obtain rfl : s = s' := by omega
            have h1 := hwz'.symm.trans HWU.out
            cases h1
          · skip
            obtain rfl : cn = p' := by omega
            obtain rfl : s = s' := by omega
            have huu : u' = u := by
              have h1 := hwu'.symm.trans HWU.out
              cases h1
              rfl
            rw [huu] at hi3 hi4
            have HI1 := Lib.hid (HI1.out.keep hb)
            have HI2 := Lib.hid (HI2.out.keep hb)
            have HI3 := Lib.hid hi3
            have HI4 := Lib.hid hi4
            have HG := Lib.hid (HG.out.keep hb HG.out.lt)
            have HL := Lib.hid (HL.out.keep hb)
            have HB := Lib.hid (HB.out.trans (hb.mono HB.out.size))
            clear hb hf hwu' huu hi3 hi4
            go_wp2_with fail
            refine (Tld.same_nil w31 HL.out).mono ?_
            rintro e1 w32 ⟨rfl, hb⟩
            have HI1 := Lib.hid (HI1.out.keep hb)
            have HI2 := Lib.hid (HI2.out.keep hb)
            have HI3 := Lib.hid (HI3.out.keep hb)
            have HI4 := Lib.hid (HI4.out.keep hb)
            have HG := Lib.hid (HG.out.keep hb HG.out.lt)
            have HL := Lib.hid (HL.out.keep hb)
            have HB := Lib.hid (HB.out.trans (hb.mono HB.out.size))
            clear hb
            go_wp2_with fail
            refine (Ints.ints_any _ _ cn cn c3 c1 _ _ w32 HI3.out HI1.out).mono ?_
            rintro e1 w33 ⟨rfl, hb⟩
            have HI2 := Lib.hid (HI2.out.keep hb)
            have HI4 := Lib.hid (HI4.out.keep hb)
            have HG := Lib.hid (HG.out.keep hb HG.out.lt)
            have HL := Lib.hid (HL.out.keep hb)
            have HB := Lib.hid (HB.out.trans (hb.mono HB.out.size))
            clear hb HI1 HI3
            rw [decide_eq_true rfl]
            go_wp2_with fail
            refine (Ints.ints_any _ _ cn cn c4 c2 _ _ w33 HI4.out HI2.out).mono ?_
            rintro e1 w34 ⟨rfl, hb⟩
            have HG := Lib.hid (HG.out.keep hb HG.out.lt)
            have HL := Lib.hid (HL.out.keep hb)
            have HB := Lib.hid (HB.out.trans (hb.mono HB.out.size))
            clear hb HI2 HI4
            rw [decide_eq_true rfl]
            go_wp2_with fail
            go_ret
            exact ⟨rfl, HB.out⟩
    · --{CHIPSBAD
      obtain ⟨z, hz⟩ : ∃ z, z = cfault sn s cz := ⟨_, rfl⟩
      rw [← hz] at HBF HZR hc0 ⊢
      have HZN := Lib.hid hc0
      have HBZ := HBF
      have q1 : (z == 0) = false := by rw [beq_eq_false_iff_ne]; exact hc0
      clear hz hc0 HBF
      have l1 := row_range HG.out
      go_wp2_with (refine wpList_load_mid rfl 24 _ rfl w.heap.size 0 rfl _ _ l1 Tryd.underlying24 rfl infoGraph ?_)
      clear l1
      refine (route_any sn s ea m ec f sa sn sc sz ca cn cc cz w6 (rows_keep HE.out HB.out) hm (HS.out.keep HB.out) (HC.out.keep HB.out) hcn HSN.out HCN.out).mono ?_
      rintro e1 w35 ⟨⟨hf, rfl⟩ | ⟨hf, hq, rfl⟩ | ⟨hf, hq⟩, hb⟩
      rotate_left
      · exact absurd (HBZ.out.symm.trans hf) HZN.out
      · exact absurd (HBZ.out.symm.trans hf) HZN.out
      have HG := Lib.hid (HG.out.keep hb HG.out.lt)
      have HL := Lib.hid (HL.out.keep hb)
      have HB := Lib.hid (HB.out.trans (hb.mono HB.out.size))
      clear hb hf
      rw [HBZ.out]
      go_wp2_with fail
      refine (Tld.same_self z w35 HL.out HZR.out).mono ?_
      rintro e1 w36 ⟨rfl, hb⟩
      have HG := Lib.hid (HG.out.keep hb HG.out.lt)
      have HL := Lib.hid (HL.out.keep hb)
      have HB := Lib.hid (HB.out.trans (hb.mono HB.out.size))
      clear hb
      go_wp2_with fail
      refine (Ints.ints_any none none 0 0 0 0 [] [] w36 (Ints.Is.nil _) (Ints.Is.nil _)).mono ?_
      rintro e1 w37 ⟨rfl, hb⟩
      have HG := Lib.hid (HG.out.keep hb HG.out.lt)
      have HL := Lib.hid (HL.out.keep hb)
      have HB := Lib.hid (HB.out.trans (hb.mono HB.out.size))
      clear hb
      rw [decide_eq_true (rfl : ([] : List Int) = [])]
      go_wp2_with fail
      refine (Ints.ints_any none none 0 0 0 0 [] [] w37 (Ints.Is.nil _) (Ints.Is.nil _)).mono ?_
      rintro e1 w38 ⟨rfl, hb⟩
      have HG := Lib.hid (HG.out.keep hb HG.out.lt)
      have HL := Lib.hid (HL.out.keep hb)
      have HB := Lib.hid (HB.out.trans (hb.mono HB.out.size))
      clear hb
      rw [decide_eq_true (rfl : ([] : List Int) = [])]
      have l1 := row_range HG.out
      go_wp2_with (refine wpList_load_mid rfl 24 _ rfl w.heap.size 0 rfl _ _ l1 Tryd.underlying24 rfl infoGraph ?_)
      clear l1
      refine (walk_any sn s ea m ec f sa sn sc sz ca cn cc cz oa on oc oz w38 (rows_keep HE.out HB.out) hm (HS.out.keep HB.out) (HC.out.keep HB.out) hcn HSN.out HCN.out (HO.out.keep HB.out)).mono ?_
      rintro e1 w39 ⟨⟨hf, rfl⟩ | ⟨hf, hq⟩, hb⟩
      rotate_left
      · exact absurd (HBZ.out.symm.trans hf) HZN.out
      have HG := Lib.hid (HG.out.keep hb HG.out.lt)
      have HL := Lib.hid (HL.out.keep hb)
      have HB := Lib.hid (HB.out.trans (hb.mono HB.out.size))
      clear hb hf
      rw [HBZ.out]
      go_wp2_with fail
      refine (Tld.same_self z w39 HL.out HZR.out).mono ?_
      rintro e1 w40 ⟨rfl, hb⟩
      have HG := Lib.hid (HG.out.keep hb HG.out.lt)
      have HL := Lib.hid (HL.out.keep hb)
      have HB := Lib.hid (HB.out.trans (hb.mono HB.out.size))
      clear hb
      go_wp2_with fail
      refine (Ints.ints_any none none 0 0 0 0 [] [] w40 (Ints.Is.nil _) (Ints.Is.nil _)).mono ?_
      rintro e1 w41 ⟨rfl, hb⟩
      have HG := Lib.hid (HG.out.keep hb HG.out.lt)
      have HL := Lib.hid (HL.out.keep hb)
      have HB := Lib.hid (HB.out.trans (hb.mono HB.out.size))
      clear hb
      rw [decide_eq_true (rfl : ([] : List Int) = [])]
      go_wp2_with fail
      refine (Ints.ints_any none none 0 0 0 0 [] [] w41 (Ints.Is.nil _) (Ints.Is.nil _)).mono ?_
      rintro e1 w42 ⟨rfl, hb⟩
      have HG := Lib.hid (HG.out.keep hb HG.out.lt)
      have HL := Lib.hid (HL.out.keep hb)
      have HB := Lib.hid (HB.out.trans (hb.mono HB.out.size))
      clear hb
      rw [decide_eq_true (rfl : ([] : List Int) = [])]
      go_wp2_with fail
      go_ret
      exact ⟨rfl, HB.out⟩
  · --{BAD
    have HBZ : Hid (bfault P m f sink sz cz = sfault P m f sink sz) := bfault_s hz0
    have HZR : Hid (-1000 ≤ sfault P m f sink sz ∧ sfault P m f sink sz ≤ 1000) := sfault_small
    obtain ⟨z, hz⟩ : ∃ z, z = sfault P m f sink sz := ⟨_, rfl⟩
    have HZE := Lib.hid hz
    rw [← hz] at HBZ HZR hz0 ⊢
    have HZN := Lib.hid hz0
    have q1 : (z == 0) = false := by rw [beq_eq_false_iff_ne]; exact hz0
    clear hz hz0
    have l1 := row_range HG.out
    go_wp2_with (refine wpList_load_mid rfl 24 _ rfl w.heap.size 0 rfl _ _ l1 Tryd.underlying24 rfl infoGraph ?_)
    clear l1
    refine (tree_any P sink ea m ec f sa sn sc sz w2 (rows_keep HE.out HB.out) hm (HS.out.keep HB.out) HSN.out).mono ?_
    rintro e1 w43 ⟨⟨hf, rfl⟩ | ⟨hf, hq⟩, hb⟩
    rotate_left
    · exact absurd (HZE.out.trans hf) HZN.out
    have HG := Lib.hid (HG.out.keep hb HG.out.lt)
    have HL := Lib.hid (HL.out.keep hb)
    have HB := Lib.hid (HB.out.trans (hb.mono HB.out.size))
    rw [← HZE.out]
    clear hb hf
    go_wp2_with fail
    refine (Tld.same_self z w43 HL.out HZR.out).mono ?_
    rintro e1 w44 ⟨rfl, hb⟩
    have HG := Lib.hid (HG.out.keep hb HG.out.lt)
    have HL := Lib.hid (HL.out.keep hb)
    have HB := Lib.hid (HB.out.trans (hb.mono HB.out.size))
    clear hb
    have l1 := row_range HG.out
    go_wp2_with (refine wpList_load_mid rfl 24 _ rfl w.heap.size 0 rfl _ _ l1 Tryd.underlying24 rfl infoGraph ?_)
    clear l1
    refine (route_any P sink ea m ec f sa sn sc sz ca cn cc cz w44 (rows_keep HE.out HB.out) hm (HS.out.keep HB.out) (HC.out.keep HB.out) hcn HSN.out HCN.out).mono ?_
    rintro e1 w45 ⟨⟨hf, rfl⟩ | ⟨hf, hq, rfl⟩ | ⟨hf, hq⟩, hb⟩
    rotate_left
    · exact absurd (HBZ.out.symm.trans hf) HZN.out
    · exact absurd (HBZ.out.symm.trans hf) HZN.out
    have HG := Lib.hid (HG.out.keep hb HG.out.lt)
    have HL := Lib.hid (HL.out.keep hb)
    have HB := Lib.hid (HB.out.trans (hb.mono HB.out.size))
    clear hb hf
    rw [HBZ.out]
    go_wp2_with fail
    refine (Tld.same_self z w45 HL.out HZR.out).mono ?_
    rintro e1 w46 ⟨rfl, hb⟩
    have HG := Lib.hid (HG.out.keep hb HG.out.lt)
    have HL := Lib.hid (HL.out.keep hb)
    have HB := Lib.hid (HB.out.trans (hb.mono HB.out.size))
    clear hb
    go_wp2_with fail
    refine (Ints.ints_any none none 0 0 0 0 [] [] w46 (Ints.Is.nil _) (Ints.Is.nil _)).mono ?_
    rintro e1 w47 ⟨rfl, hb⟩
    have HG := Lib.hid (HG.out.keep hb HG.out.lt)
    have HL := Lib.hid (HL.out.keep hb)
    have HB := Lib.hid (HB.out.trans (hb.mono HB.out.size))
    clear hb
    rw [decide_eq_true (rfl : ([] : List Int) = [])]
    go_wp2_with fail
    refine (Ints.ints_any none none 0 0 0 0 [] [] w47 (Ints.Is.nil _) (Ints.Is.nil _)).mono ?_
    rintro e1 w48 ⟨rfl, hb⟩
    have HG := Lib.hid (HG.out.keep hb HG.out.lt)
    have HL := Lib.hid (HL.out.keep hb)
    have HB := Lib.hid (HB.out.trans (hb.mono HB.out.size))
    clear hb
    rw [decide_eq_true (rfl : ([] : List Int) = [])]
    have l1 := row_range HG.out
    go_wp2_with (refine wpList_load_mid rfl 24 _ rfl w.heap.size 0 rfl _ _ l1 Tryd.underlying24 rfl infoGraph ?_)
    clear l1
    refine (walk_any P sink ea m ec f sa sn sc sz ca cn cc cz oa on oc oz w48 (rows_keep HE.out HB.out) hm (HS.out.keep HB.out) (HC.out.keep HB.out) hcn HSN.out HCN.out (HO.out.keep HB.out)).mono ?_
    rintro e1 w49 ⟨⟨hf, rfl⟩ | ⟨hf, hq⟩, hb⟩
    rotate_left
    · exact absurd (HBZ.out.symm.trans hf) HZN.out
    have HG := Lib.hid (HG.out.keep hb HG.out.lt)
    have HL := Lib.hid (HL.out.keep hb)
    have HB := Lib.hid (HB.out.trans (hb.mono HB.out.size))
    clear hb hf
    rw [HBZ.out]
    go_wp2_with fail
    refine (Tld.same_self z w49 HL.out HZR.out).mono ?_
    rintro e1 w50 ⟨rfl, hb⟩
    have HG := Lib.hid (HG.out.keep hb HG.out.lt)
    have HL := Lib.hid (HL.out.keep hb)
    have HB := Lib.hid (HB.out.trans (hb.mono HB.out.size))
    clear hb
    go_wp2_with fail
    refine (Ints.ints_any none none 0 0 0 0 [] [] w50 (Ints.Is.nil _) (Ints.Is.nil _)).mono ?_
    rintro e1 w51 ⟨rfl, hb⟩
    have HG := Lib.hid (HG.out.keep hb HG.out.lt)
    have HL := Lib.hid (HL.out.keep hb)
    have HB := Lib.hid (HB.out.trans (hb.mono HB.out.size))
    clear hb
    rw [decide_eq_true (rfl : ([] : List Int) = [])]
    go_wp2_with fail
    refine (Ints.ints_any none none 0 0 0 0 [] [] w51 (Ints.Is.nil _) (Ints.Is.nil _)).mono ?_
    rintro e1 w52 ⟨rfl, hb⟩
    have HG := Lib.hid (HG.out.keep hb HG.out.lt)
    have HL := Lib.hid (HL.out.keep hb)
    have HB := Lib.hid (HB.out.trans (hb.mono HB.out.size))
    clear hb
    rw [decide_eq_true (rfl : ([] : List Int) = [])]
    go_wp2_with fail
    go_ret
    exact ⟨rfl, HB.out⟩
end Rt
end Go.Proofs.YtjikildiblchpaaDoor
