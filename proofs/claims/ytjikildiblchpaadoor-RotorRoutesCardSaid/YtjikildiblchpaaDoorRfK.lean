/- WALK of the document's answer: edenref6.Walk. -/
import Derived.Test.YtjikildiblchpaaDoorRfQ
import Derived.Test.YtjikildiblchpaaDoorRtW
namespace Go.Proofs.YtjikildiblchpaaDoor
set_option linter.unusedSimpArgs false
set_option linter.unusedVariables false
open Go.RowKit Go.Lib
namespace Rt
open Tld Mem

/-- What the document's Walk gives. -/
def RWalkPost (p s m : Nat) (f : Nat → Nat → Int) (sz cz oz : List Int) (w : World) (e : Ending) (w' : World) : Prop :=
  ((∃ z : Int, z ≠ 0 ∧ walkL p s (bdG p m s f) (sgN sz) (sgN cz) (fun _ => 0) oz = .error z ∧ e = .returned (.tuple #[.slice none 0 0, .slice none 0 0, .int .i64 z])) ∨
   (∃ (b1 c1 b2 c2 : Nat) (u : Nat → Nat), walkL p s (bdG p m s f) (sgN sz) (sgN cz) (fun _ => 0) oz = .ok u ∧ e = .returned (.tuple #[.slice (some ⟨b1, 0, none⟩) p c1, .slice (some ⟨b2, 0, none⟩) p c2, .int .i64 0]) ∧
     Ints.Is w' (some ⟨b1, 0, none⟩) p (lstF p fun k => (sgU (bdG p m s f) (sgN sz) u k : Int)) ∧ Ints.Is w' (some ⟨b2, 0, none⟩) p (lstF p fun k => (chU (bdG p m s f) (sgN sz) (sgN cz) u k : Int)))) ∧ Below w.heap.size w w'

set_option maxHeartbeats 8000000 in
set_option maxRecDepth 1000000 in
theorem rwalk_any (p s m : Nat) (ea : Option Addr) (ec : Nat) (f : Nat → Nat → Int) (sa : Option Addr) (sc : Nat) (sz : List Int) (ca : Option Addr) (cc : Nat) (cz : List Int) (oa : Option Addr) (on oc : Nat) (oz : List Int) (w : World) (hE : Mem.Rows w ea m 3 (fun i j => .int .i64 (f i j))) (hS : Ints.Is w sa p sz) (hC : Ints.Is w ca p cz) (hO : Ints.Is w oa on oz) (hok : GOk p m f) (hsp : s < p) (hsg : ∀ k, k < p → SignOk s (fun k => deg f k m) k (sz.getD k 0)) (hcf : cfault p s cz = 0) :
    Calls Tryd.prog 15 #[.agg #[.int .i64 (p : Int), .slice ea m ec], .int .i64 (s : Int), .slice sa p sc, .slice ca p cc, .slice oa on oc] w (RWalkPost p s m f sz cz oz w) := by
  have hbo : (bdG p m s f).Ok := bdG_ok hok hsp
  have hsk := signs_ok hsg
  obtain ⟨hcl, hcs, hck⟩ := chips_ok hcf hsp
  have hp10 := hok.p10
  have hp0 : 0 < p := hok.p1
  have hN1 : sumN (sgN cz) p ≤ 100000 := by
    have := sumN_le (F := sgN cz) (G := fun _ => 10000) (n := p) fun i hi => (hck i (by omega)).2
    rw [sumN_const] at this
    omega
  have hP1 : p ≤ maxLen := by unfold maxLen; omega
  have HS1 : Hid (∀ k, k < p → sz.getD k 0 = (sgU (bdG p m s f) (sgN sz) (fun _ => 0) k : Int)) := fun k hk => by
    obtain ⟨h1, h2, h3⟩ := hsk k hk
    rw [h1]
    show (sgN sz k : Int) = (((sgN sz k + 0) % deg f k m : Nat) : Int)
    rw [Nat.add_zero]
    by_cases e : k = s
    · rw [h2 e, Nat.zero_mod]
    · rw [Nat.mod_eq_of_lt (h3 e)]
  have HC1 : Hid (∀ k, k < p → cz.getD k 0 = (chU (bdG p m s f) (sgN sz) (sgN cz) (fun _ => 0) k : Int)) := fun k hk => by
    rw [(hck k hk).1]
    show (sgN cz k : Int) = (((if k = s then 0 else inb (bdG p m s f) (sgN sz) (sgN cz) (fun _ => 0) k - 0) : Nat) : Int)
    by_cases e : k = s
    · rw [if_pos e, e, hcs]
    · rw [if_neg e]
      unfold inb
      rw [sumN_congr (G := fun _ => 0) fun j _ => show arr _ _ j k 0 = 0 from rfl, sumN_zero, Nat.add_zero, Nat.sub_zero]
  have HBO := Lib.hid hbo
  have HOK := Lib.hid hok
  have HE := Lib.hid hE
  have HS := Lib.hid hS
  have HC := Lib.hid hC
  have HO := Lib.hid hO
  have HOL := Lib.hid hO.len
  have hol := hO.le
  unfold maxLen at hol
  obtain ⟨D, hD⟩ : ∃ D, D = walkL p s (bdG p m s f) (sgN sz) (sgN cz) (fun _ => 0) oz := ⟨_, rfl⟩
  have HD := Lib.hid hD
  clear hbo hok hE hS hC hO hsg hcf hsk hcl hcs hck hD
  go_enter Tryd.func15, Tryd.ntmps15
  go_upto_region 3 with fail
  have hR : Row (w.alloc (.cells #[.int .i64 (p : Int), .slice ea m ec] 24)) w.heap.size 24 [.int .i64 (p : Int), .slice ea m ec] := row_alloc w _ _
  have hB : Below w.heap.size w (w.alloc (.cells #[.int .i64 (p : Int), .slice ea m ec] 24)) := (Below.refl _ _).alloc (Nat.le_refl _) _
  have HG := Lib.hid hR
  have HB := Lib.hid hB
  clear hR hB
  generalize w.alloc (.cells #[.int .i64 (p : Int), .slice ea m ec] 24) = w1 at *
  have HSa := Lib.hid (HS.out.keep HB.out)
  go_upto_region 4 with (at_builtin; refine wpList_app_all rfl _ _ rfl _ _ _ _ rfl rfl HSa.out hp0 (by omega) ?_; intro bs cs w2 hbs hvs hb2)
  have HG2 := Lib.hid (HG.out.keep hb2 HG.out.lt)
  have HB2 := Lib.hid (HB.out.trans (hb2.mono HB.out.size))
  have HV2 := Lib.hid (hvs.congr HS1.out)
  have hbs0 : w.heap.size ≤ bs := Nat.le_trans HB.out.size hbs
  have hbs2 := hvs.lt
  have HCa := Lib.hid (HC.out.keep HB2.out)
  clear hb2 hvs hbs HG HB HSa
  go_upto_region 5 with (at_builtin; refine wpList_app_all rfl _ _ rfl _ _ _ _ rfl rfl HCa.out hp0 (by omega) ?_; intro bc cc w3 hbc hvc hb3)
  have HG3 := Lib.hid (HG2.out.keep hb3 HG2.out.lt)
  have HB3 := Lib.hid (HB2.out.trans (hb3.mono HB2.out.size))
  have HV3 := Lib.hid (HV2.out.keep hb3 hbs2)
  have HW3 := Lib.hid (hvc.congr HC1.out)
  have hsc : bs ≠ bc := by omega
  have hbc0 : w.heap.size ≤ bc := by omega
  have hbc3 := hvc.lt
  have hbs3 : bs < w3.heap.size := Nat.lt_of_lt_of_le hbs2 hb3.size
  clear hb3 hvc HG2 HB2 HCa HV2 hbs2 hbc
  have l1 := row_range HG3.out
  go_wp2_with (refine wpList_load_mid rfl 24 _ rfl w.heap.size 0 rfl _ _ l1 Tryd.underlying24 rfl infoGraph ?_)
  clear l1
  refine (rall_any p ea m ec f w3 (rows_keep HE.out HB3.out) HOK.out.m40 HOK.out.edge hp10).mono ?_
  rintro e1 w5 ⟨v, LV, rfl, hw5, hb5⟩
  obtain ⟨g, cap, rfl⟩ : ∃ g cap, v = .slice (some ⟨g, 0, none⟩) p cap := by
    rcases hw5.row.2 with ⟨_, h1⟩ | ⟨g, cap, cur, h1, _⟩
    · omega
    · exact ⟨g, cap, h1⟩
  have HR : Hid (RSt w5 w3.heap.size bs bc p s m f (sgN sz) (sgN cz) (fun _ => 0) (.slice (some ⟨g, 0, none⟩) p cap) LV) := ⟨hw5, HV3.out.keep hb5 hbs3, HW3.out.keep hb5 hbc3⟩
  have HG := Lib.hid (HG3.out.keep hb5 HG3.out.lt)
  have HB := Lib.hid (HB3.out.trans (hb5.mono HB3.out.size))
  obtain ⟨B, hBB⟩ : ∃ B, B = w3.heap.size := ⟨_, rfl⟩
  rw [← hBB] at HR hbs3 hbc3
  have h0B : w.heap.size ≤ B := by omega
  have HL0 : Hid (Leg (bdG p m s f) (sgN sz) (sgN cz) fun _ => 0) := Leg.zero
  clear hb5 hw5 HG3 HB3 HV3 HW3 hBB HS1 HC1
  go_wp2_with fail
  go_loopw [16] (fun v wr => ∃ (i : Nat) (u : Nat → Nat), i ≤ on ∧ v = .int .i64 (i : Int) ∧ Leg (bdG p m s f) (sgN sz) (sgN cz) u ∧ RSt wr B bs bc p s m f (sgN sz) (sgN cz) u (.slice (some ⟨g, 0, none⟩) p cap) LV ∧ Row wr w.heap.size 24 [.int .i64 (p : Int), .slice ea m ec] ∧ Below w.heap.size w wr ∧ D = walkL p s (bdG p m s f) (sgN sz) (sgN cz) u (oz.drop i)) (fun v _ => on - (intOf v).toNat)
  case atStart => exact ⟨0, _, Nat.zero_le _, rfl, HL0.out, HR.out, HG.out, HB.out, HD.out⟩
  case round =>
    clear HR HG HB HL0
    obtain ⟨i, u, hi, rfl, hl, hr, hg, hb, hd⟩ := hrel
    have HL := Lib.hid hl
    have HR := Lib.hid hr
    have HG := Lib.hid hg
    have HB := Lib.hid hb
    have HDI := Lib.hid hd
    have g0 := hg.cell 0
    dsimp only [List.getElem?_cons_zero] at g0
    clear hl hr hg hb hd
    by_cases hlt : i < on
    · --{ROUND
      obtain ⟨b, off, rfl, _, hc⟩ := (HO.out.keep HB.out).cells i hlt
      dsimp only at hc
      have HDR := Lib.hid (drop_cons (l := oz) (i := i) (by rw [HOL.out]; exact hlt))
      have hi2 : (i : Int) < (on : Int) := by omega
      obtain ⟨k, hk⟩ : ∃ k, k = oz.getD i 0 := ⟨_, rfl⟩
      rw [← hk] at hc HDR
      clear hk
      have HDW : Hid (D = if k < 0 ∨ (p : Int) ≤ k ∨ k = (s : Int) then .error 1 else if chU (bdG p m s f) (sgN sz) (sgN cz) u k.toNat = 0 then .error 7 else walkL p s (bdG p m s f) (sgN sz) (sgN cz) (bump u k.toNat 1) (oz.drop (i + 1))) := by
        show _ = _
        rw [HDI.out, HDR.out]
        rfl
      have HBAD : Hid (∀ z : Int, z ≠ 0 → D = .error z → RWalkPost p s m f sz cz oz w (.returned (.tuple #[.slice none 0 0, .slice none 0 0, .int .i64 z])) wr) := fun z hz he => ⟨.inl ⟨z, hz, by rw [← HD.out]; exact he, rfl⟩, HB.out⟩
      by_cases h0 : k < 0
      · have he : D = .error 1 := by rw [HDW.out, if_pos (.inl h0)]
        have HX := Lib.hid (HBAD.out 1 (by decide) he)
        clear he
        go_wp2_with fail
        go_ret3
        exact HX.out
      by_cases h1 : (p : Int) ≤ k
      · have he : D = .error 1 := by rw [HDW.out, if_pos (.inr (.inl h1))]
        have HX := Lib.hid (HBAD.out 1 (by decide) he)
        clear he
        go_wp2_with fail
        go_ret3
        exact HX.out
      obtain ⟨q, rfl⟩ : ∃ q : Nat, k = (q : Int) := ⟨k.toNat, by omega⟩
      have hqp : q < p := by omega
      have d1 : decide ((p : Int) ≤ (q : Int)) = false := decide_eq_false h1
      clear h0 h1
      obtain ⟨bq, hbq⟩ : ∃ b, b = ((q : Int) == (s : Int)) := ⟨_, rfl⟩
      have q1 := hbq.symm
      have HBQ := Lib.hid hbq
      clear hbq
      cases bq
      case true =>
        have he : D = .error 1 := by rw [HDW.out, if_pos (.inr (.inr (eq_of_beq HBQ.out.symm)))]
        have HX := Lib.hid (HBAD.out 1 (by decide) he)
        clear he
        go_wp2_with fail
        go_ret3
        exact HX.out
      have hqs : q ≠ s := fun e => by
        have := HBQ.out
        rw [e, beq_self_eq_true] at this
        cases this
      have HQS := Lib.hid hqs
      have hne : ¬ ((q : Int) < 0 ∨ (p : Int) ≤ (q : Int) ∨ (q : Int) = (s : Int)) := by omega
      have HDW2 : Hid (D = if chU (bdG p m s f) (sgN sz) (sgN cz) u q = 0 then .error 7 else walkL p s (bdG p m s f) (sgN sz) (sgN cz) (bump u q 1) (oz.drop (i + 1))) := by
        show _ = _
        rw [HDW.out, if_neg hne]
        rfl
      clear hqs hne HDW
      have c3 := HR.out.chv.cell hqp
      have hmo : chU (bdG p m s f) (sgN sz) (sgN cz) u q ≤ 100000 := Nat.le_trans (ch_most HBO.out HL.out hqp) hN1
      have hq2 : (q : Int) < (p : Int) := by omega
      have HRUN : Hid (0 < chU (bdG p m s f) (sgN sz) (sgN cz) u q → _) := fun h => HR.out.goes cs cc q hsc hbs3 hbc3 HL.out HOK.out hsp hqp HQS.out h hN1
      have HLG : Hid (0 < chU (bdG p m s f) (sgN sz) (sgN cz) u q → Leg (bdG p m s f) (sgN sz) (sgN cz) (bump u q 1)) := fun h => ch_leg HBO.out HL.out hqp HQS.out h
      obtain ⟨cq, hcq⟩ : ∃ z, z = chU (bdG p m s f) (sgN sz) (sgN cz) u q := ⟨_, rfl⟩
      rw [← hcq] at c3 hmo HRUN HLG HDW2
      clear hcq
      by_cases hz : cq = 0
      · have he : D = .error 7 := by rw [HDW2.out, if_pos hz]
        have HX := Lib.hid (HBAD.out 7 (by decide) he)
        have b1 : ((cq : Int) == 0) = true := by rw [hz]; rfl
        clear he hz
        go_wp2_with fail
        go_ret3
        exact HX.out
      · have HGO := Lib.hid (HRUN.out (by omega))
        have HL2 := Lib.hid (HLG.out (by omega))
        have HD2 : Hid (D = walkL p s (bdG p m s f) (sgN sz) (sgN cz) (bump u q 1) (oz.drop (i + 1))) := by
          show _ = _
          rw [HDW2.out, if_neg hz]
        have b1 : ((cq : Int) == 0) = false := by rw [beq_eq_false_iff_ne]; omega
        clear hz HRUN HLG HDW2
        go_wp2_with fail
        refine HGO.out.mono ?_
        rintro e6 w6 ⟨⟨v6, rfl⟩, hr6, hc6⟩
        have HR6 := Lib.hid hr6
        have HG6 : Hid (Row w6 w.heap.size 24 [.int .i64 (p : Int), .slice ea m ec]) := row_chg HG.out hc6 fun h => by
          obtain ⟨cs1, hq1, _⟩ := HR.out.sgv.row
          obtain ⟨cs2, hq2, _⟩ := HR.out.chv.row
          exact h.elim (row_ne HG.out hq1 (by decide)) (row_ne HG.out hq2 (by decide))
        have HB6 : Hid (Below w.heap.size w w6) := chg_low hc6 HB.out HB.out.size hbs0 hbc0 HB.out.size
        clear hr6 hc6 HR HG HB HGO
        go_wp2_with fail
        go_roundw
        case rel => exact ⟨i + 1, bump u q 1, by omega, by go_num, HL2.out, HR6.out, HG6.out, HB6.out, HD2.out⟩
        case measure => simp [intOf]; omega
      --}
    · --{END
      obtain rfl : i = on := by omega
      have HFIN : Hid (walkL p s (bdG p m s f) (sgN sz) (sgN cz) (fun _ => 0) oz = .ok u) := by
        show _ = _
        rw [← HD.out, HDI.out, List.drop_of_length_le (by rw [HOL.out]; exact Nat.le_refl _)]
        rfl
      have HI1 := Lib.hid (HR.out.sgv.is hP1)
      have HI2 := Lib.hid (HR.out.chv.is hP1)
      go_wp2_with fail
      go_ret3
      exact ⟨.inr ⟨bs, cs, bc, cc, u, HFIN.out, rfl, HI1.out, HI2.out⟩, HB.out⟩
      --}
end Rt
end Go.Proofs.YtjikildiblchpaaDoor
