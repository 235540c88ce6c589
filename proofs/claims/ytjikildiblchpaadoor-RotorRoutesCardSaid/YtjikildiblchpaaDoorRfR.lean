/- WALK of the document's answer: edenref6.Route. -/
import Derived.Test.YtjikildiblchpaaDoorRfQ
import Derived.Deep.LoopGhost
namespace Go.Proofs.YtjikildiblchpaaDoor
set_option linter.unusedSimpArgs false
set_option linter.unusedVariables false
open Go.RowKit Go.Lib
namespace Rt
open Tld Mem

set_option maxHeartbeats 8000000 in
set_option maxRecDepth 1000000 in
theorem rroute_any (p s m : Nat) (ea : Option Addr) (ec : Nat) (f : Nat → Nat → Int) (sa : Option Addr) (sc : Nat) (sz : List Int) (ca : Option Addr) (cc : Nat) (cz : List Int) (w : World) (hE : Mem.Rows w ea m 3 (fun i j => .int .i64 (f i j))) (hS : Ints.Is w sa p sz) (hC : Ints.Is w ca p cz) (hok : GOk p m f) (hsp : s < p) (hsg : ∀ k, k < p → SignOk s (fun k => deg f k m) k (sz.getD k 0)) (hcf : cfault p s cz = 0) (hsum : sumN (sgN cz) p ≤ 1000) :
    Calls Tryd.prog 13 #[.agg #[.int .i64 (p : Int), .slice ea m ec], .int .i64 (s : Int), .slice sa p sc, .slice ca p cc] w fun e w' => ∃ (b1 c1 b2 c2 : Nat) (u : Nat → Nat), e = .returned (.tuple #[.slice (some ⟨b1, 0, none⟩) p c1, .slice (some ⟨b2, 0, none⟩) p c2]) ∧ Leg (bdG p m s f) (sgN sz) (sgN cz) u ∧ Done (bdG p m s f) (sgN sz) (sgN cz) u ∧
      Ints.Is w' (some ⟨b1, 0, none⟩) p (lstF p fun k => (sgU (bdG p m s f) (sgN sz) u k : Int)) ∧ Ints.Is w' (some ⟨b2, 0, none⟩) p (lstF p fun k => wrap64 (u k : Int)) ∧ Below w.heap.size w w' := by
  obtain ⟨i0, hI0, hz0, hz1, hz2⟩ := info_parts infoIntN
  have hbo : (bdG p m s f).Ok := bdG_ok hok hsp
  have hcon : (bdG p m s f).Conn := bdG_conn hok hsp
  have hsk := signs_ok hsg
  obtain ⟨bnd, hbnd⟩ := Leg.ends hbo hcon (sgN sz) (sgN cz) fun k hk hne => (hsk k hk).2.2 hne
  obtain ⟨hcl, hcs, hck⟩ := chips_ok hcf hsp
  have hp10 := hok.p10
  have hp0 : 0 < p := hok.p1
  have hN1 : sumN (sgN cz) p ≤ 100000 := by omega
  have hP1 : p ≤ maxLen := by unfold maxLen; omega
  have HS1 : Hid (∀ k, k < p → sz.getD k 0 = (sgU (bdG p m s f) (sgN sz) (fun _ => 0) k : Int)) := fun k hk => by
    obtain ⟨h1, h2, h3⟩ := hsk k hk
    rw [h1]
    show (sgN sz k : Int) = (((sgN sz k + 0) % deg f k m : Nat) : Int)
    rw [Nat.add_zero]
    by_cases e : k = s
    · rw [h2 e, Nat.zero_mod]
    · rw [Nat.mod_eq_of_lt (h3 e)]
  have HC1 : Hid (∀ k, k < p → cz.getD k 0 = (chU (bdG p m s f) (sgN sz) (sgN cz) (fun _ => 0) k : Int)) := fun k hk => by
    rw [(hck k hk).1]
    show (sgN cz k : Int) = (((if k = s then 0 else inb (bdG p m s f) (sgN sz) (sgN cz) (fun _ => 0) k - 0) : Nat) : Int)
    by_cases e : k = s
    · rw [if_pos e, e, hcs]
    · rw [if_neg e]
      unfold inb
      rw [sumN_congr (G := fun _ => 0) fun j _ => show arr _ _ j k 0 = 0 from rfl, sumN_zero, Nat.add_zero, Nat.sub_zero]
  have HBND : Hid (∀ u, Leg (bdG p m s f) (sgN sz) (sgN cz) u → sumN u p ≤ bnd) := hbnd
  have HBO := Lib.hid hbo
  have HOK := Lib.hid hok
  have HE := Lib.hid hE
  have HS := Lib.hid hS
  have HC := Lib.hid hC
  clear hbnd hbo hok hE hS hC hsg hcf hsum hcon hsk hcl hcs hck
  go_enter Tryd.func13, Tryd.ntmps13
  go_upto_region 3 with fail
  have hR : Row (w.alloc (.cells #[.int .i64 (p : Int), .slice ea m ec] 24)) w.heap.size 24 [.int .i64 (p : Int), .slice ea m ec] := row_alloc w _ _
  have hB : Below w.heap.size w (w.alloc (.cells #[.int .i64 (p : Int), .slice ea m ec] 24)) := (Below.refl _ _).alloc (Nat.le_refl _) _
  have HG := Lib.hid hR
  have HB := Lib.hid hB
  clear hR hB
  generalize w.alloc (.cells #[.int .i64 (p : Int), .slice ea m ec] 24) = w1 at *
  have HSa := Lib.hid (HS.out.keep HB.out)
  go_upto_region 4 with (at_builtin; refine wpList_app_all rfl _ _ rfl _ _ _ _ rfl rfl HSa.out hp0 (by omega) ?_; intro bs cs w2 hbs hvs hb2)
  have HG2 := Lib.hid (HG.out.keep hb2 HG.out.lt)
  have HB2 := Lib.hid (HB.out.trans (hb2.mono HB.out.size))
  have HV2 := Lib.hid (hvs.congr HS1.out)
  have hbs0 : w.heap.size ≤ bs := Nat.le_trans HB.out.size hbs
  have hbs2 := hvs.lt
  have HCa := Lib.hid (HC.out.keep HB2.out)
  clear hb2 hvs hbs HG HB HSa
  go_upto_region 5 with (at_builtin; refine wpList_app_all rfl _ _ rfl _ _ _ _ rfl rfl HCa.out hp0 (by omega) ?_; intro bc cc w3 hbc hvc hb3)
  have HG3 := Lib.hid (HG2.out.keep hb3 HG2.out.lt)
  have HB3 := Lib.hid (HB2.out.trans (hb3.mono HB2.out.size))
  have HV3 := Lib.hid (HV2.out.keep hb3 hbs2)
  have HW3 := Lib.hid (hvc.congr HC1.out)
  have hsc : bs ≠ bc := by omega
  have hbc0 : w.heap.size ≤ bc := by omega
  have hbc3 := hvc.lt
  have hbs3 : bs < w3.heap.size := Nat.lt_of_lt_of_le hbs2 hb3.size
  clear hb3 hvc HG2 HB2 HCa HV2 hbs2 hbc
  have g0 := HG3.out.cell 0
  dsimp only [List.getElem?_cons_zero] at g0
  go_upto_region 6 with (refine Ops.wpList_make rfl 25 _ _ rfl 3 i0 (.int .i64 0) Tryd.underlying25 hI0 hz0 rfl hz1 (by rw [hz2]; decide) p rfl rfl (by omega) ?_; intro bt w4 hbt hb4 hvt)
  clear g0
  have HG4 := Lib.hid (HG3.out.keep hb4 HG3.out.lt)
  have HB4 := Lib.hid (HB3.out.trans (hb4.mono HB3.out.size))
  have HV4 := Lib.hid (HV3.out.keep hb4 hbs3)
  have HW4 := Lib.hid (HW3.out.keep hb4 hbc3)
  have HT4 := Lib.hid (row_made hvt)
  have hst : bs ≠ bt := by omega
  have hct : bc ≠ bt := by omega
  have hbt0 : w.heap.size ≤ bt := by omega
  have hbt4 := HT4.out.lt
  have hbs4 : bs < w4.heap.size := Nat.lt_of_lt_of_le hbs3 hb4.size
  have hbc4 : bc < w4.heap.size := Nat.lt_of_lt_of_le hbc3 hb4.size
  clear hb4 hvt HG3 HB3 HV3 HW3 hbs3 hbc3 hbt
  have l1 := row_range HG4.out
  go_wp2_with (refine wpList_load_mid rfl 24 _ rfl w.heap.size 0 rfl _ _ l1 Tryd.underlying24 rfl infoGraph ?_)
  clear l1
  refine (rall_any p ea m ec f w4 (rows_keep HE.out HB4.out) HOK.out.m40 HOK.out.edge hp10).mono ?_
  rintro e1 w5 ⟨v, LV, rfl, hw5, hb5⟩
  obtain ⟨g, cap, rfl⟩ : ∃ g cap, v = .slice (some ⟨g, 0, none⟩) p cap := by
    rcases hw5.row.2 with ⟨_, h1⟩ | ⟨g, cap, cur, h1, _⟩
    · omega
    · exact ⟨g, cap, h1⟩
  have HR : Hid (RSt w5 w4.heap.size bs bc p s m f (sgN sz) (sgN cz) (fun _ => 0) (.slice (some ⟨g, 0, none⟩) p cap) LV) := ⟨hw5, HV4.out.keep hb5 hbs4, HW4.out.keep hb5 hbc4⟩
  have HT : Hid (Vec w5 bt p fun k => wrap64 (((fun _ => 0 : Nat → Nat) k : Nat) : Int)) := (HT4.out.keep hb5 hbt4).congr fun k hk => (show (0 : Int) = wrap64 ((0 : Nat) : Int) by unfold wrap64; omega)
  have HG := Lib.hid (HG4.out.keep hb5 HG4.out.lt)
  have HB := Lib.hid (HB4.out.trans (hb5.mono HB4.out.size))
  obtain ⟨B, hBB⟩ : ∃ B, B = w4.heap.size := ⟨_, rfl⟩
  rw [← hBB] at HR hbs4 hbc4 hbt4
  have h0B : w.heap.size ≤ B := by omega
  have HL0 : Hid (Leg (bdG p m s f) (sgN sz) (sgN cz) fun _ => 0) := Leg.zero
  clear hb5 hw5 HG4 HB4 HV4 HW4 HT4 hBB HS1 HC1
  go_wp2_with fail
  go_loopw [14] (fun z wr => ∃ (k : Nat) (u : Nat → Nat), k ≤ p ∧ z = .int .i64 (k : Int) ∧ Leg (bdG p m s f) (sgN sz) (sgN cz) u ∧ (∀ j, j < k → chU (bdG p m s f) (sgN sz) (sgN cz) u j = 0) ∧ RSt wr B bs bc p s m f (sgN sz) (sgN cz) u (.slice (some ⟨g, 0, none⟩) p cap) LV ∧ Vec wr bt p (fun k => wrap64 (u k : Int)) ∧ Row wr w.heap.size 24 [.int .i64 (p : Int), .slice ea m ec] ∧ Below w.heap.size w wr ) (fun z _ => p - (intOf z).toNat)
  case atStart => exact ⟨0, fun _ => 0, Nat.zero_le _, rfl, HL0.out, fun j hj => absurd hj (Nat.not_lt_zero _), HR.out, HT.out, HG.out, HB.out⟩
  case round =>
    clear HR HT HG HB HL0
    obtain ⟨k, u, hkp, rfl, hl, hz, hr, ht, hg, hb⟩ := hrel
    have HL := Lib.hid hl
    have HZ := Lib.hid hz
    have HR := Lib.hid hr
    have HT := Lib.hid ht
    have HG := Lib.hid hg
    have HB := Lib.hid hb
    have g0 := hg.cell 0
    dsimp only [List.getElem?_cons_zero] at g0
    clear hl hz hr ht hg hb
    by_cases hk : k < p
    · have hk2 : (k : Int) < (p : Int) := by omega
      go_wp2_with fail
      clear g0
      go_loopg [15] (bnd - sumN u p) (fun gg z wx => ∃ u : Nat → Nat, Leg (bdG p m s f) (sgN sz) (sgN cz) u ∧ (∀ j, j < k → chU (bdG p m s f) (sgN sz) (sgN cz) u j = 0) ∧ RSt wx B bs bc p s m f (sgN sz) (sgN cz) u (.slice (some ⟨g, 0, none⟩) p cap) LV ∧ Vec wx bt p (fun k => wrap64 (u k : Int)) ∧ Row wx w.heap.size 24 [.int .i64 (p : Int), .slice ea m ec] ∧ Below w.heap.size w wx ∧ gg = bnd - sumN u p)
      case atStart => exact ⟨u, HL.out, HZ.out, HR.out, HT.out, HG.out, HB.out, rfl⟩
      case round =>
        clear HL HZ HR HT HG HB
        clear u
        obtain ⟨u, hl, hz, hr, ht, hg, hb, hgk⟩ := hrel
        have HL := Lib.hid hl
        have HZ := Lib.hid hz
        have HR := Lib.hid hr
        have HT := Lib.hid ht
        have HG := Lib.hid hg
        have HB := Lib.hid hb
        have HGK := Lib.hid hgk
        have c1 := hr.chv.cell hk
        clear hl hz hr ht hg hb hgk
        have HCM : Hid (chU (bdG p m s f) (sgN sz) (sgN cz) u k ≤ 100000) := Nat.le_trans (ch_most HBO.out HL.out hk) hN1
        have HCS : Hid (k = s → chU (bdG p m s f) (sgN sz) (sgN cz) u k = 0) := fun e => if_pos e
        obtain ⟨ck, hcke⟩ : ∃ d, d = chU (bdG p m s f) (sgN sz) (sgN cz) u k := ⟨_, rfl⟩
        have HCK := Lib.hid hcke
        rw [← hcke] at c1 HCM HCS
        have hcm := HCM.out
        clear hcke HCM
        by_cases hpos : 0 < ck
        · have d1 : (0 : Int) < (ck : Int) := by omega
          have hks : k ≠ s := fun e => by have := HCS.out e; omega
          have HWK : Hid (Wk (bdG p m s f) (sgN sz) (sgN cz) u k k) := Wk.start HL.out hk (by rw [← HCK.out]; exact hpos) HZ.out
          clear HCS
          go_wp2_with fail
          clear c1 d1
          generalize decide ((0 : Int) < (ck : Int)) = qd
          obtain ⟨u0, hu0⟩ : ∃ v, v = u := ⟨_, rfl⟩
          have HGE : Hid (gk = bnd - sumN u0 p) := by rw [hu0]; exact HGK.out
          have HU0 := Lib.hid hu0
          go_loopg [15] (bnd - sumN u p) (fun gg z wx => ∃ (u : Nat → Nat) (a : Nat), z = .int .i64 (a : Int) ∧ Wk (bdG p m s f) (sgN sz) (sgN cz) u k a ∧ (sumN u0 p + 1 ≤ sumN u p ∨ a = k) ∧ RSt wx B bs bc p s m f (sgN sz) (sgN cz) u (.slice (some ⟨g, 0, none⟩) p cap) LV ∧ Vec wx bt p (fun k => wrap64 (u k : Int)) ∧ Row wx w.heap.size 24 [.int .i64 (p : Int), .slice ea m ec] ∧ Below w.heap.size w wx ∧ sumN u0 p ≤ sumN u p ∧ gg = bnd - sumN u p)
          case atStart => exact ⟨u, k, rfl, HWK.out, .inr rfl, HR.out, HT.out, HG.out, HB.out, by rw [HU0.out]; exact Nat.le_refl _, rfl⟩
          case round =>
            clear HL HZ HR HT HG HB HGK HWK HU0 HCK hpos hcm hu0
            clear u
            obtain ⟨u, a, rfl, hw, hmo, hr, ht, hg, hb, hle, hgk⟩ := hrel
            have HW := Lib.hid hw
            have HM := Lib.hid hmo
            have HR := Lib.hid hr
            have HT := Lib.hid ht
            have HG := Lib.hid hg
            have HB := Lib.hid hb
            have HLE := Lib.hid hle
            have HGK := Lib.hid hgk
            have hal : a < p := hw.lt
            clear hw hmo hr ht hg hb hle hgk
            by_cases has : a = s
            · have b1 : ((a : Int) != (s : Int)) = false := by rw [has]; exact bne_self_eq_false _
              have HZ : Hid (∀ j, j < k → chU (bdG p m s f) (sgN sz) (sgN cz) u j = 0) := by
                have h2 := HW.out
                rw [has] at h2
                exact Wk.stop h2
              have HLT : Hid (sumN u0 p + 1 ≤ sumN u p) := HM.out.elim id fun e => absurd (e.symm.trans has) hks
              have HBD : Hid (sumN u p ≤ bnd) := HBND.out u HW.out.leg
              have HL := Lib.hid HW.out.leg
              clear has
              go_wp2_with fail
              go_roundg (bnd - sumN u p)
              case measure => have := HLT.out; have := HBD.out; have := HGE.out; omega
              case rel => exact ⟨u, HL.out, HZ.out, HR.out, HT.out, HG.out, HB.out, rfl⟩
            · have b1 : ((a : Int) != (s : Int)) = true := by rw [bne_iff_ne]; omega
              have HW2 : Hid (Wk (bdG p m s f) (sgN sz) (sgN cz) (bump u a 1) k (toU (bdG p m s f) (sgN sz) u a)) := Wk.step HBO.out HW.out (Nat.le_of_lt hk) has
              have HBD : Hid (sumN (bump u a 1) p ≤ bnd) := HBND.out _ HW2.out.leg
              have HSM : Hid (sumN (bump u a 1) p = sumN u p + 1) := sumN_bump hal
              have HGO := Lib.hid (HR.out.goes cs cc a hsc hbs4 hbc4 HW.out.leg HOK.out hsp hal has (HW.out.pos has) hN1)
              have hd0 : 0 < deg f a m := HBO.out.pos a hal has
              have HWY : Hid ((bdG p m s f).way a (sgU (bdG p m s f) (sgN sz) (bump u a 1) a) = toU (bdG p m s f) (sgN sz) u a) := to_way.symm
              clear has
              go_wp2_with fail
              refine HGO.out.mono ?_
              rintro e6 w6 ⟨⟨v6, rfl⟩, hr6, hc6⟩
              have HR6 := Lib.hid hr6
              have HT6 : Hid (Vec w6 bt p fun k => wrap64 (u k : Int)) := vec_chg HT.out hc6 fun h => h.elim (fun e => hst e.symm) (fun e => hct e.symm)
              have HG6 : Hid (Row w6 w.heap.size 24 [.int .i64 (p : Int), .slice ea m ec]) := row_chg HG.out hc6 fun h => by
                obtain ⟨cs1, hq1, _⟩ := HR.out.sgv.row
                obtain ⟨cs2, hq2, _⟩ := HR.out.chv.row
                exact h.elim (row_ne HG.out hq1 (by decide)) (row_ne HG.out hq2 (by decide))
              have HB6 : Hid (Below w.heap.size w w6) := chg_low hc6 HB.out HB.out.size hbs0 hbc0 HB.out.size
              clear hr6 hc6 HR HT HG HB HGO
              have t1 := HT6.out.cell hal
              have t2 := HT6.out.frozen a
              obtain ⟨wk, hwk⟩ : ∃ z, z = wrap64 (u a : Int) := ⟨_, rfl⟩
              rw [← hwk] at t1
              have HWK := Lib.hid hwk
              clear hwk
              have ha2 : (a : Int) < (p : Int) := by omega
              have o7 := only_setCell w6 bt a (.int .i64 (wrap64 (wk + 1)))
              have HT7 : Hid (Vec (w6.setCell ⟨bt, a, none⟩ (.int .i64 (wrap64 (wk + 1)))) bt p fun k => wrap64 (bump u a 1 k : Int)) := (HT6.out.set hal (wrap64 (wk + 1))).congr fun j hj => by
                by_cases e : j = a
                · rw [e, upd_at, bump_at, HWK.out, wrap_add, Int.natCast_add]; rfl
                · rw [upd_no e, bump_no e]
              have HR7 := Lib.hid (HR6.out.only o7 hst hct hbt4)
              have HG7 : Hid (Row (w6.setCell ⟨bt, a, none⟩ (.int .i64 (wrap64 (wk + 1)))) w.heap.size 24 [.int .i64 (p : Int), .slice ea m ec]) := by
                obtain ⟨cs1, hq1, _⟩ := HT6.out.row
                exact HG6.out.other o7 (row_ne HG6.out hq1 (by decide))
              have HB7 := Lib.hid (HB6.out.trans (o7.below hbt0))
              clear o7
              go_upto_region 15 with fail
              clear t1 t2 HT6 HR6 HG6 HB6
              generalize w6.setCell ⟨bt, a, none⟩ (.int .i64 (wrap64 (wk + 1))) = w7 at *
              have hsl : sgU (bdG p m s f) (sgN sz) (bump u a 1) a < deg f a m := Nat.mod_lt _ hd0
              obtain ⟨bw, ow, uc, g1, g2⟩ := ways_to (s := s) HR7.out.ways HOK.out hal hsl
              have s1 := HR7.out.sgv.cell hal
              rw [HWY.out] at g2
              obtain ⟨sm, hsm⟩ : ∃ z, z = sgU (bdG p m s f) (sgN sz) (bump u a 1) a := ⟨_, rfl⟩
              rw [← hsm] at s1 g2 hsl
              clear hsm HWY
              generalize deg f a m = d at *
              obtain ⟨q, hq⟩ : ∃ z, z = toU (bdG p m s f) (sgN sz) u a := ⟨_, rfl⟩
              rw [← hq] at HW2 g2
              clear hq
              have hs2 : (sm : Int) < (d : Int) := by omega
              have HML : Hid (sumN u0 p + 1 ≤ sumN (bump u a 1) p) := by rw [HSM.out]; have := HLE.out; show _ ≤ _; omega
              go_big_quiet (fail)
              have HR8 := Lib.hid (HR7.out.keep (below_drewN (Below.refl _ _) nq))
              have HT8 := Lib.hid (HT7.out.drewN nq)
              have HG8 := Lib.hid (HG7.out.drewN nq)
              have HB8 := Lib.hid (below_drewN HB7.out nq)
              clear HR7 HT7 HG7 HB7 g1 g2 s1
              generalize w7.drewN nq = w8 at *
              go_wp2_with fail
              go_roundg (bnd - sumN (bump u a 1) p)
              case measure => have := HBD.out; have := HSM.out; have := HGK.out; omega
              case rel => exact ⟨bump u a 1, q, rfl, HW2.out, .inl HML.out, HR8.out, HT8.out, HG8.out, HB8.out, Nat.le_of_succ_le HML.out, rfl⟩
        · have d1 : ¬ (0 : Int) < (ck : Int) := by omega
          have HZ2 : Hid (∀ j, j < k + 1 → chU (bdG p m s f) (sgN sz) (sgN cz) u j = 0) := fun j hj => by
            by_cases e : j = k
            · rw [e, ← HCK.out]; omega
            · exact HZ.out j (by omega)
          go_wp2_with fail
          go_roundw
          case rel => exact ⟨k + 1, u, by omega, by go_num, HL.out, HZ2.out, HR.out, HT.out, HG.out, HB.out⟩
          case measure => simp [intOf]; omega
    · obtain rfl : k = p := by omega
      have HD : Hid (Done (bdG k m s f) (sgN sz) (sgN cz) u) := done_of HZ.out
      have HI1 := Lib.hid (HR.out.sgv.is hP1)
      have HI2 := Lib.hid (HT.out.is hP1)
      go_wp2_with fail
      go_ret2
      exact ⟨bs, cs, bt, k, u, rfl, HL.out, HD.out, HI1.out, HI2.out, HB.out⟩
end Rt
end Go.Proofs.YtjikildiblchpaaDoor
