/- THE LAW ChipsFires: its walk, out of its callees' contracts. Printed by gens/chfires.py. -/
import Derived.Test.YtjikildiblchpaaChW
namespace Go.Proofs.Ytjikildiblchpaa
set_option linter.unusedSimpArgs false
set_option linter.unusedVariables false
open Go.RowKit Go.Lib
namespace Ch
open Tld Mem Rt

set_option maxHeartbeats 16000000 in
set_option maxRecDepth 1000000 in
theorem chipsFires_any (P place times at' : Int) (ea : Option Addr) (m ec : Nat) (f : Nat → Nat → Int) (da : Option Addr) (dn dc : Nat) (zs : List Int) (w : World) (hE : Mem.Rows w ea m 3 (fun i j => .int .i64 (f i j))) (hm : m ≤ 9223372036854775807) (hD : Ints.Is w da dn zs) :
    Calls Try.prog 5 #[.agg #[.int .i64 P, .slice ea m ec], .slice da dn dc, .int .i64 place, .int .i64 times, .int .i64 at'] w fun e w' => e = .returned (.bool true) ∧ Below w.heap.size w w' := by
  have HE := Lib.hid hE
  have HD := Lib.hid hD
  have HDL := Lib.hid hD.len
  clear hE hD
  go_enter Try.func5, Try.ntmps5
  go_upto_region 1 with fail
  have hR : Row (w.alloc (.cells #[.int .i64 P, .slice ea m ec] 24)) w.heap.size 24 [.int .i64 P, .slice ea m ec] := row_alloc w _ _
  have hB : Below w.heap.size w (w.alloc (.cells #[.int .i64 P, .slice ea m ec] 24)) := (Below.refl _ _).alloc (Nat.le_refl _) _
  have HG := Lib.hid hR
  have HB := Lib.hid hB
  clear hR hB
  generalize w.alloc (.cells #[.int .i64 P, .slice ea m ec] 24) = w1 at *
  go_upto_region 2 with fail
  have hrE : Row (w1.alloc (.cells #[.int .i64 0, .int .i64 1, .int .i64 2] 27)) w1.heap.size 27 [.int .i64 0, .int .i64 1, .int .i64 2] := row_alloc w1 _ _
  have hbE : Below w1.heap.size w1 (w1.alloc (.cells #[.int .i64 0, .int .i64 1, .int .i64 2] 27)) := (Below.refl _ _).alloc (Nat.le_refl _) _
  have hsE : (w1.alloc (.cells #[.int .i64 0, .int .i64 1, .int .i64 2] 27)).heap.size = w1.heap.size + 1 := by simp
  have hrO := row_alloc (w1.alloc (.cells #[.int .i64 0, .int .i64 1, .int .i64 2] 27)) 24 [.int .i64 2, .slice (some ⟨w1.heap.size, 0, none⟩) 1 1]
  have hbO : Below (w1.heap.size + 1) (w1.alloc (.cells #[.int .i64 0, .int .i64 1, .int .i64 2] 27)) ((w1.alloc (.cells #[.int .i64 0, .int .i64 1, .int .i64 2] 27)).alloc (.cells [.int .i64 2, .slice (some ⟨w1.heap.size, 0, none⟩) 1 1].toArray 24)) := (Below.refl _ _).alloc (by rw [hsE]; exact Nat.le_refl _) _
  rw [hsE] at hrO
  have HRE := Lib.hid (t2_rows (hrE.keep hbO (by omega)))
  have HRO := Lib.hid hrO
  have hbB := hbE.trans (hbO.mono (by omega))
  have HG := Lib.hid (HG.out.keep hbB HG.out.lt)
  have HB := Lib.hid (HB.out.trans (hbB.mono HB.out.size))
  clear hrE hbE hsE hrO hbO hbB
  generalize (w1.alloc (.cells #[.int .i64 0, .int .i64 1, .int .i64 2] 27)).alloc (.cells #[.int .i64 2, .slice (some ⟨w1.heap.size, 0, none⟩) 1 1] 24) = w2 at *
  obtain ⟨bo, hbo⟩ : ∃ b, b = w1.heap.size + 1 := ⟨_, rfl⟩
  obtain ⟨be, hbe⟩ : ∃ b, b = w1.heap.size := ⟨_, rfl⟩
  rw [← hbo, ← hbe] at HRO
  rw [← hbe] at HRE
  rw [← hbo, ← hbe]
  clear hbo hbe
  have l1 := row_range HRO.out
  have hr4 := row_alloc w2 3 [.int .i64 0, .int .i64 3]
  have hb4 : Below w2.heap.size w2 (w2.alloc (.cells [.int .i64 0, .int .i64 3].toArray 3)) := (Below.refl _ _).alloc (Nat.le_refl _) _
  have HI4 := Lib.hid (own_is (B := 0) (zs := [0, 3]) (own_made hr4 (Nat.zero_le _) (by unfold maxLen; decide)) rfl (by unfold maxLen; decide)).1
  have HRE := Lib.hid (rows_keep HRE.out hb4)
  have HG := Lib.hid (HG.out.keep hb4 HG.out.lt)
  have HB := Lib.hid (HB.out.trans (hb4.mono HB.out.size))
  clear hr4 hb4
  go_wp2_with (refine wpList_load_mid rfl 24 _ rfl bo 0 rfl _ _ l1 Try.underlying24 rfl infoGraph ?_)
  clear l1 HRO
  generalize w2.alloc (.cells #[.int .i64 0, .int .i64 3] 3) = w3 at *
  refine (reducedP_any 2 0 _ 1 1 t2 _ 2 2 [0, 3] w3 HRE.out (by omega) HI4.out).mono ?_
  rintro e1 w4 ⟨⟨hf, rfl⟩ | ⟨hf, ho, rfl⟩ | ⟨hf, p0, a0, b0, c0, R0, hp0, ha0, _, rfl, hv, heq, hred, _⟩, hb⟩
  · exact absurd t2_ch hf
  · exact absurd ho (by omega)
  obtain rfl : p0 = 2 := by omega
  obtain rfl : a0 = 0 := by omega
  obtain ⟨r0, r1⟩ := t2_red heq hred
  have f0 := hv.cell (k := 0) (by omega)
  have f1 := hv.cell (k := 1) (by omega)
  rw [r0] at f0
  rw [r1] at f1
  have HG := Lib.hid (HG.out.keep hb HG.out.lt)
  have HB := Lib.hid (HB.out.trans (hb.mono HB.out.size))
  clear hb hf hp0 ha0 hv heq hred r0 r1 HRE HI4
  have l1 := row_range HG.out
  go_wp2_with (refine wpList_load_mid rfl 24 _ rfl w.heap.size 0 rfl _ _ l1 Try.underlying24 rfl infoGraph ?_)
  clear l1
  refine (reducedP_any P at' ea m ec f da dn dc zs w4 (rows_keep HE.out HB.out) hm (HD.out.keep HB.out)).mono ?_
  rintro e1 w11 ⟨⟨hf, rfl⟩ | ⟨hf, ho, rfl⟩ | ⟨hf, p, a, b, c, R, rfl, rfl, ha, rfl, hv, heq, hred, hbd⟩, hb⟩
  · skip
    have HG := Lib.hid (HG.out.keep hb HG.out.lt)
    have HB := Lib.hid (HB.out.trans (hb.mono HB.out.size))
    rw [errV_some hf]
    clear hb hf f0 f1
    go_wp2_with fail
    go_ret
    exact ⟨rfl, HB.out⟩
  · skip
    have HG := Lib.hid (HG.out.keep hb HG.out.lt)
    have HB := Lib.hid (HB.out.trans (hb.mono HB.out.size))
    rw [errV_some (n := 1) (by decide)]
    clear hb hf ho f0 f1
    go_wp2_with fail
    go_ret
    exact ⟨rfl, HB.out⟩
  obtain ⟨p', hpp, hok, hzl, hz⟩ := chfault_one hf
  obtain rfl : p = p' := by omega
  have HCF := Lib.hid hf
  have HOK := Lib.hid hok
  have HP1 : Hid (p ≤ maxLen) := by unfold maxLen; have := hok.p10; show _ ≤ _; omega
  have HV := Lib.hid (hv.is HP1.out)
  have HEQ := Lib.hid heq
  have HRED := Lib.hid hred
  have hdp : dn = p := by rw [← HDL.out]; exact hzl
  subst hdp
  have hp10 := hok.p10
  have HDW : Hid (Ints.Is w11 da dn zs) := HD.out.keep (HB.out.trans (hb.mono HB.out.size))
  have HG := Lib.hid (HG.out.keep hb HG.out.lt)
  have HB := Lib.hid (HB.out.trans (hb.mono HB.out.size))
  clear hb hf hpp hok hzl hz hv heq hred hbd f0 f1
  have l1 := row_range HG.out
  go_wp2_with (refine wpList_load_mid rfl 24 _ rfl w.heap.size 0 rfl _ _ l1 Try.underlying24 rfl infoGraph ?_)
  clear l1
  refine (rdiv_any dn ea m ec _ dn c (lstF dn R) w11 HV.out hp10).mono ?_
  rintro e1 w12 ⟨rfl, hb⟩
  have HG := Lib.hid (HG.out.keep hb HG.out.lt)
  have HV := Lib.hid (HV.out.keep hb)
  have HDW := Lib.hid (HDW.out.keep hb)
  have HB := Lib.hid (HB.out.trans (hb.mono HB.out.size))
  clear hb
  go_wp2_with fail
  refine (rsumZ_any da dn dc zs w12 HDW.out hp10).mono ?_
  rintro e1 w13 ⟨rfl, rfl⟩
  obtain ⟨sm, hsm⟩ : ∃ s, s = wrap64 (sumZ (fun k => zs.getD k 0) dn) := ⟨_, rfl⟩
  rw [← hsm]
  have HSMV := Lib.hid hsm
  clear hsm
  go_wp2_with fail
  refine (rsumZ_any _ dn c (lstF dn R) w13 HV.out hp10).mono ?_
  rintro e1 w14 ⟨rfl, rfl⟩
  have HSUM : Hid (sumZ (fun k => (lstF dn R).getD k 0) dn = sumZ (fun k => zs.getD k 0) dn) := sum_lst.trans (HEQ.out.sum (gr_of HOK.out).sym)
  rw [HSUM.out, ← HSMV.out]
  clear HSUM HSMV
  have g0 := HG.out.cell 0
  dsimp only [List.getElem?_cons_zero] at g0
  have b1 : ((dn : Int) != (dn : Int)) = false := bne_self_eq_false _
  have b2 : (sm != sm) = false := bne_self_eq_false _
  obtain ⟨z, hz⟩ : ∃ z, z = dfault dn (lstF dn R) := ⟨_, rfl⟩
  rw [← hz]
  have HZ := Lib.hid hz
  clear hz
  go_wp2_with fail
  clear g0 b1 b2
  go_loopw [19] (fun z wr => ∃ k : Nat, k ≤ dn ∧ z = .int .i64 (k : Int) ∧ wr = w14) (fun z _ => dn - (intOf z).toNat)
  case atStart => exact ⟨0, Nat.zero_le _, rfl, rfl⟩
  case round =>
    obtain ⟨k, hkn, rfl, rfl⟩ := hrel
    have g0 := HG.out.cell 0
    dsimp only [List.getElem?_cons_zero] at g0
    by_cases hk : k < dn
    · have hk2 : (k : Int) < (dn : Int) := by omega
      obtain ⟨bz, oz, ez, _, hcz⟩ := HV.out.cells k hk
      cases ez
      dsimp only at hcz
      rw [lstF_get hk, Nat.zero_add] at hcz
      have HPOS := HRED.out.pos k hk
      obtain ⟨r, hr⟩ : ∃ r, r = R k := ⟨_, rfl⟩
      rw [← hr] at hcz HPOS
      clear hr
      by_cases hka : k = a
      · have b1 : ((k : Int) != (a : Int)) = false := by rw [hka]; exact bne_self_eq_false _
        clear hka HPOS
        go_wp2_with fail
        go_roundw
        case rel => exact ⟨k + 1, by omega, by go_num, by trivial⟩
        case measure => simp [intOf]; omega
      · have b1 : ((k : Int) != (a : Int)) = true := by rw [bne_iff_ne]; omega
        have hr0 : ¬ r < 0 := by have := HPOS hka; omega
        clear hka HPOS
        go_wp2_with fail
        go_roundw
        case rel => exact ⟨k + 1, by omega, by go_num, by trivial⟩
        case measure => simp [intOf]; omega
    · obtain rfl : k = dn := by omega
      obtain ⟨dn, rfl⟩ : ∃ q, q = k := ⟨_, rfl⟩
      go_upto_region 18 with fail
      clear g0
      have l1 := row_range HG.out
      go_wp2_with (refine wpList_load_mid rfl 24 _ rfl w.heap.size 0 rfl _ _ l1 Try.underlying24 rfl infoGraph ?_)
      clear l1
      refine (burns_any dn ea m ec f _ c (lstF dn R) a wr (rows_keep HE.out HB.out) HOK.out HV.out ha).mono ?_
      rintro e1 w15 ⟨bF, F, rfl, _, hF, hbn, hlg, hb⟩
      have HNO : Hid (∀ k, k < dn → F k = false) := HRED.out.none F (legal_lst hbn hlg)
      have HF := Lib.hid hF
      have HG := Lib.hid (HG.out.keep hb HG.out.lt)
      have HV := Lib.hid (HV.out.keep hb)
      have HDW := Lib.hid (HDW.out.keep hb)
      have HB := Lib.hid (HB.out.trans (hb.mono HB.out.size))
      clear hb hF hbn hlg
      go_wp2_with fail
      go_loopw [21] (fun z wr => ∃ k : Nat, k ≤ dn ∧ z = .int .i64 (k : Int) ∧ wr = w15) (fun z _ => dn - (intOf z).toNat)
      case atStart => exact ⟨0, Nat.zero_le _, rfl, rfl⟩
      case round =>
        obtain ⟨k, hkn, rfl, rfl⟩ := hrel
        have g0 := HG.out.cell 0
        dsimp only [List.getElem?_cons_zero] at g0
        by_cases hk : k < dn
        · have hk2 : (k : Int) < (dn : Int) := by omega
          have c1 := HF.out.cell hk
          rw [HNO.out k hk] at c1
          go_wp2_with fail
          go_roundw
          case rel => exact ⟨k + 1, by omega, by go_num, by trivial⟩
          case measure => simp [intOf]; omega
        · obtain rfl : k = dn := by omega
          obtain ⟨dn, rfl⟩ : ∃ q, q = k := ⟨_, rfl⟩
          clear HF HNO
          by_cases hz0 : z = 0
          · --{FIT
            subst hz0
            have hd0 := HZ.out.symm
            have HRC : Hid (chfault (dn : Int) m f [lstF dn R] = 0) := ch_one (ch_g HCF.out) hd0
            have HRD : Hid (chfault (dn : Int) m f [lstF dn R, zs] = 0) := ch_two (ch_g HCF.out) hd0 (ch_d HCF.out)
            clear hd0
            have l1 := row_range HG.out
            go_wp2_with (refine wpList_load_mid rfl 24 _ rfl w.heap.size 0 rfl _ _ l1 Try.underlying24 rfl infoGraph ?_)
            clear l1
            refine (reducedP_any (dn : Int) (a : Int) ea m ec f _ dn c (lstF dn R) wr (rows_keep HE.out HB.out) hm HV.out).mono ?_
            rintro e1 w16 ⟨⟨hf, rfl⟩ | ⟨hf, ho, rfl⟩ | ⟨hf, p', a'', b2, c2, R2, hp', ha', _, rfl, hv2, heq2, hred2, _⟩, hb⟩
            · exact absurd HRC.out hf
            · exact absurd ho (by omega)
            obtain rfl : dn = p' := by omega
            obtain rfl : a = a'' := by omega
            have HSM : Hid (lstF dn R = lstF dn R2) := lstF_congr fun k hk => HRED.out.unique hred2 (eqv_lst.trans heq2) ha k hk
            have HV2 := Lib.hid (hv2.is HP1.out)
            have HG := Lib.hid (HG.out.keep hb HG.out.lt)
            have HV := Lib.hid (HV.out.keep hb)
            have HDW := Lib.hid (HDW.out.keep hb)
            have HB := Lib.hid (HB.out.trans (hb.mono HB.out.size))
            clear hb hf hp' ha' hv2 heq2 hred2
            go_wp2_with fail
            refine (Ints.ints_any _ _ dn dn c c2 (lstF dn R) (lstF dn R2) w16 HV.out HV2.out).mono ?_
            rintro e1 w17 ⟨rfl, hb⟩
            have HG := Lib.hid (HG.out.keep hb HG.out.lt)
            have HV := Lib.hid (HV.out.keep hb)
            have HDW := Lib.hid (HDW.out.keep hb)
            have HB := Lib.hid (HB.out.trans (hb.mono HB.out.size))
            clear hb HV2
            rw [decide_eq_true HSM.out]
            clear HSM
            have l1 := row_range HG.out
            go_wp2_with (refine wpList_load_mid rfl 24 _ rfl w.heap.size 0 rfl _ _ l1 Try.underlying24 rfl infoGraph ?_)
            clear l1
            refine (sameP_any (dn : Int) ea m ec f _ dn c (lstF dn R) da dn dc zs w17 (rows_keep HE.out HB.out) hm HV.out HDW.out).mono ?_
            rintro e1 w18 ⟨⟨hf, rfl⟩ | ⟨hf, p', q, hp', hq, rfl⟩, hb⟩
            · exact absurd HRD.out hf
            obtain rfl : dn = p' := by omega
            obtain rfl : q = true := hq.2 (eqv_lst.symm.trans HEQ.out.symm)
            have HG := Lib.hid (HG.out.keep hb HG.out.lt)
            have HV := Lib.hid (HV.out.keep hb)
            have HDW := Lib.hid (HDW.out.keep hb)
            have HB := Lib.hid (HB.out.trans (hb.mono HB.out.size))
            clear hb hf hp' hq
            have l1 := row_range HG.out
            go_wp2_with (refine wpList_load_mid rfl 24 _ rfl w.heap.size 0 rfl _ _ l1 Try.underlying24 rfl infoGraph ?_)
            clear l1
            refine (fireP_any (dn : Int) place times ea m ec f da dn dc zs w18 (rows_keep HE.out HB.out) hm HDW.out).mono ?_
            rintro e1 w19 ⟨⟨hf, rfl⟩ | ⟨hf, ho, rfl⟩ | ⟨hf, _, _, p', a', bq, cq, hp', ha', hap', rfl, hvq⟩, hb⟩
            · exact absurd HCF.out hf
            · skip
              have HG := Lib.hid (HG.out.keep hb HG.out.lt)
              have HB := Lib.hid (HB.out.trans (hb.mono HB.out.size))
              rw [errV_some (n := 1) (by decide)]
              clear hb hf ho
              go_wp2_with fail
              go_ret
              exact ⟨rfl, HB.out⟩
            obtain rfl : dn = p' := by omega
            have HQ := Lib.hid (hvq.is HP1.out)
            have HQE : Hid (Eqv dn (fun a b => btw f a b m) (fun k => zs.getD k 0) (fun k => (lstF dn (fireZ dn (fun a b => btw f a b m) (fun k => zs.getD k 0) (fun j => decide (j = a')) times)).getD k 0)) := fire_eqv.trans eqv_lst
            generalize lstF dn (fireZ dn (fun a b => btw f a b m) (fun k => zs.getD k 0) (fun j => decide (j = a')) times) = qs at *
            have HG := Lib.hid (HG.out.keep hb HG.out.lt)
            have HV := Lib.hid (HV.out.keep hb)
            have HDW := Lib.hid (HDW.out.keep hb)
            have HB := Lib.hid (HB.out.trans (hb.mono HB.out.size))
            clear hb hf hvq hp' ha' hap'
            have l1 := row_range HG.out
            go_wp2_with (refine wpList_load_mid rfl 24 _ rfl w.heap.size 0 rfl _ _ l1 Try.underlying24 rfl infoGraph ?_)
            clear l1
            refine (rdiv_any dn ea m ec _ dn cq qs w19 HQ.out hp10).mono ?_
            rintro e1 w20 ⟨rfl, hb⟩
            have HG := Lib.hid (HG.out.keep hb HG.out.lt)
            have HV := Lib.hid (HV.out.keep hb)
            have HDW := Lib.hid (HDW.out.keep hb)
            have HQ := Lib.hid (HQ.out.keep hb)
            have HB := Lib.hid (HB.out.trans (hb.mono HB.out.size))
            clear hb
            by_cases hq0 : dfault dn qs = 0
            rotate_left
            · have q1 : (dfault dn qs != 0) = true := by rw [bne_iff_ne]; exact hq0
              generalize dfault dn qs = y at *
              clear hq0
              go_wp2_with fail
              go_ret
              exact ⟨rfl, HB.out⟩
            have HQC : Hid (chfault (dn : Int) m f [qs] = 0) := ch_one (ch_g HCF.out) hq0
            have HQD : Hid (chfault (dn : Int) m f [zs, qs] = 0) := ch_two (ch_g HCF.out) (ch_d HCF.out) hq0
            have q1 : (dfault dn qs != 0) = false := by rw [hq0]; rfl
            rw [hq0] at q1 ⊢
            clear hq0
            have l1 := row_range HG.out
            go_wp2_with (refine wpList_load_mid rfl 24 _ rfl w.heap.size 0 rfl _ _ l1 Try.underlying24 rfl infoGraph ?_)
            clear l1
            refine (reducedP_any (dn : Int) (a : Int) ea m ec f _ dn cq qs w20 (rows_keep HE.out HB.out) hm HQ.out).mono ?_
            rintro e1 w21 ⟨⟨hf, rfl⟩ | ⟨hf, ho, rfl⟩ | ⟨hf, p', a'', b2, c2, R2, hp', ha', _, rfl, hv2, heq2, hred2, _⟩, hb⟩
            · exact absurd HQC.out hf
            · exact absurd ho (by omega)
            obtain rfl : dn = p' := by omega
            obtain rfl : a = a'' := by omega
            have HSM : Hid (lstF dn R = lstF dn R2) := lstF_congr fun k hk => HRED.out.unique hred2 ((HEQ.out.symm.trans HQE.out).trans heq2) ha k hk
            have HV2 := Lib.hid (hv2.is HP1.out)
            have HG := Lib.hid (HG.out.keep hb HG.out.lt)
            have HV := Lib.hid (HV.out.keep hb)
            have HDW := Lib.hid (HDW.out.keep hb)
            have HQ := Lib.hid (HQ.out.keep hb)
            have HB := Lib.hid (HB.out.trans (hb.mono HB.out.size))
            clear hb hf hp' ha' hv2 heq2 hred2
            go_wp2_with fail
            refine (Ints.ints_any _ _ dn dn c c2 (lstF dn R) (lstF dn R2) w21 HV.out HV2.out).mono ?_
            rintro e1 w22 ⟨rfl, hb⟩
            have HG := Lib.hid (HG.out.keep hb HG.out.lt)
            have HDW := Lib.hid (HDW.out.keep hb)
            have HQ := Lib.hid (HQ.out.keep hb)
            have HB := Lib.hid (HB.out.trans (hb.mono HB.out.size))
            clear hb HV2
            rw [decide_eq_true HSM.out]
            clear HSM
            have l1 := row_range HG.out
            go_wp2_with (refine wpList_load_mid rfl 24 _ rfl w.heap.size 0 rfl _ _ l1 Try.underlying24 rfl infoGraph ?_)
            clear l1
            refine (sameP_any (dn : Int) ea m ec f da dn dc zs _ dn cq qs w22 (rows_keep HE.out HB.out) hm HDW.out HQ.out).mono ?_
            rintro e1 w23 ⟨⟨hf, rfl⟩ | ⟨hf, p', q, hp', hq, rfl⟩, hb⟩
            · exact absurd HQD.out hf
            obtain rfl : dn = p' := by omega
            obtain rfl : q = true := hq.2 HQE.out
            have HG := Lib.hid (HG.out.keep hb HG.out.lt)
            have HB := Lib.hid (HB.out.trans (hb.mono HB.out.size))
            clear hb hf hp' hq
            go_wp2_with fail
            go_ret
            exact ⟨rfl, HB.out⟩
          · --{UNFIT
            have q0 : (z == 0) = false := by rw [beq_eq_false_iff_ne]; exact hz0
            clear hz0
            have l1 := row_range HG.out
            go_wp2_with (refine wpList_load_mid rfl 24 _ rfl w.heap.size 0 rfl _ _ l1 Try.underlying24 rfl infoGraph ?_)
            clear l1
            refine (fireP_any (dn : Int) place times ea m ec f da dn dc zs wr (rows_keep HE.out HB.out) hm HDW.out).mono ?_
            rintro e1 w24 ⟨⟨hf, rfl⟩ | ⟨hf, ho, rfl⟩ | ⟨hf, _, _, p', a', bq, cq, hp', ha', hap', rfl, hvq⟩, hb⟩
            · exact absurd HCF.out hf
            · skip
              have HG := Lib.hid (HG.out.keep hb HG.out.lt)
              have HB := Lib.hid (HB.out.trans (hb.mono HB.out.size))
              rw [errV_some (n := 1) (by decide)]
              clear hb hf ho
              go_wp2_with fail
              go_ret
              exact ⟨rfl, HB.out⟩
            obtain rfl : dn = p' := by omega
            have HQ := Lib.hid (hvq.is HP1.out)
            have HQE : Hid (Eqv dn (fun a b => btw f a b m) (fun k => zs.getD k 0) (fun k => (lstF dn (fireZ dn (fun a b => btw f a b m) (fun k => zs.getD k 0) (fun j => decide (j = a')) times)).getD k 0)) := fire_eqv.trans eqv_lst
            generalize lstF dn (fireZ dn (fun a b => btw f a b m) (fun k => zs.getD k 0) (fun j => decide (j = a')) times) = qs at *
            have HG := Lib.hid (HG.out.keep hb HG.out.lt)
            have HV := Lib.hid (HV.out.keep hb)
            have HDW := Lib.hid (HDW.out.keep hb)
            have HB := Lib.hid (HB.out.trans (hb.mono HB.out.size))
            clear hb hf hvq hp' ha' hap'
            have l1 := row_range HG.out
            go_wp2_with (refine wpList_load_mid rfl 24 _ rfl w.heap.size 0 rfl _ _ l1 Try.underlying24 rfl infoGraph ?_)
            clear l1
            refine (rdiv_any dn ea m ec _ dn cq qs w24 HQ.out hp10).mono ?_
            rintro e1 w25 ⟨rfl, hb⟩
            have HG := Lib.hid (HG.out.keep hb HG.out.lt)
            have HV := Lib.hid (HV.out.keep hb)
            have HDW := Lib.hid (HDW.out.keep hb)
            have HQ := Lib.hid (HQ.out.keep hb)
            have HB := Lib.hid (HB.out.trans (hb.mono HB.out.size))
            clear hb
            by_cases hq0 : dfault dn qs = 0
            rotate_left
            · have q1 : (dfault dn qs != 0) = true := by rw [bne_iff_ne]; exact hq0
              generalize dfault dn qs = y at *
              clear hq0
              go_wp2_with fail
              go_ret
              exact ⟨rfl, HB.out⟩
            have HQC : Hid (chfault (dn : Int) m f [qs] = 0) := ch_one (ch_g HCF.out) hq0
            have HQD : Hid (chfault (dn : Int) m f [zs, qs] = 0) := ch_two (ch_g HCF.out) (ch_d HCF.out) hq0
            have q1 : (dfault dn qs != 0) = false := by rw [hq0]; rfl
            rw [hq0] at q1 ⊢
            clear hq0
            have l1 := row_range HG.out
            go_wp2_with (refine wpList_load_mid rfl 24 _ rfl w.heap.size 0 rfl _ _ l1 Try.underlying24 rfl infoGraph ?_)
            clear l1
            refine (reducedP_any (dn : Int) (a : Int) ea m ec f _ dn cq qs w25 (rows_keep HE.out HB.out) hm HQ.out).mono ?_
            rintro e1 w26 ⟨⟨hf, rfl⟩ | ⟨hf, ho, rfl⟩ | ⟨hf, p', a'', b2, c2, R2, hp', ha', _, rfl, hv2, heq2, hred2, _⟩, hb⟩
            · exact absurd HQC.out hf
            · exact absurd ho (by omega)
            obtain rfl : dn = p' := by omega
            obtain rfl : a = a'' := by omega
            have HSM : Hid (lstF dn R = lstF dn R2) := lstF_congr fun k hk => HRED.out.unique hred2 ((HEQ.out.symm.trans HQE.out).trans heq2) ha k hk
            have HV2 := Lib.hid (hv2.is HP1.out)
            have HG := Lib.hid (HG.out.keep hb HG.out.lt)
            have HV := Lib.hid (HV.out.keep hb)
            have HDW := Lib.hid (HDW.out.keep hb)
            have HQ := Lib.hid (HQ.out.keep hb)
            have HB := Lib.hid (HB.out.trans (hb.mono HB.out.size))
            clear hb hf hp' ha' hv2 heq2 hred2
            go_wp2_with fail
            refine (Ints.ints_any _ _ dn dn c c2 (lstF dn R) (lstF dn R2) w26 HV.out HV2.out).mono ?_
            rintro e1 w27 ⟨rfl, hb⟩
            have HG := Lib.hid (HG.out.keep hb HG.out.lt)
            have HDW := Lib.hid (HDW.out.keep hb)
            have HQ := Lib.hid (HQ.out.keep hb)
            have HB := Lib.hid (HB.out.trans (hb.mono HB.out.size))
            clear hb HV2
            rw [decide_eq_true HSM.out]
            clear HSM
            have l1 := row_range HG.out
            go_wp2_with (refine wpList_load_mid rfl 24 _ rfl w.heap.size 0 rfl _ _ l1 Try.underlying24 rfl infoGraph ?_)
            clear l1
            refine (sameP_any (dn : Int) ea m ec f da dn dc zs _ dn cq qs w27 (rows_keep HE.out HB.out) hm HDW.out HQ.out).mono ?_
            rintro e1 w28 ⟨⟨hf, rfl⟩ | ⟨hf, p', q, hp', hq, rfl⟩, hb⟩
            · exact absurd HQD.out hf
            obtain rfl : dn = p' := by omega
            obtain rfl : q = true := hq.2 HQE.out
            have HG := Lib.hid (HG.out.keep hb HG.out.lt)
            have HB := Lib.hid (HB.out.trans (hb.mono HB.out.size))
            clear hb hf hp' hq
            go_wp2_with fail
            go_ret
            exact ⟨rfl, HB.out⟩
end Ch
end Go.Proofs.Ytjikildiblchpaa
