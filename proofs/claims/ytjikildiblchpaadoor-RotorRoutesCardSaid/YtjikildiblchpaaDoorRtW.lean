/- WALK: rotor.Walk: chips go by an order. -/
import Derived.Test.YtjikildiblchpaaDoorRtT
namespace Go.Proofs.YtjikildiblchpaaDoor
set_option linter.unusedSimpArgs false
set_option linter.unusedVariables false
open Go.RowKit Go.Lib
namespace Rt
open Tld Mem

/-- Steps by an order: how many went from each place; or what is wrong. -/
noncomputable def walkL (P s : Nat) (B : Bd) (sg c : Nat → Nat) (u : Nat → Nat) : List Int → Except Int (Nat → Nat)
  | [] => .ok u
  | k :: l => if k < 0 ∨ (P : Int) ≤ k ∨ k = (s : Int) then .error 1 else if chU B sg c u k.toNat = 0 then .error 7 else walkL P s B sg c (bump u k.toNat 1) l
/-- What Walk gives. -/
def WalkPost (P : Int) (m : Nat) (f : Nat → Nat → Int) (sink : Int) (sz cz oz : List Int) (w : World) (e : Ending) (w' : World) : Prop :=
  ((bfault P m f sink sz cz ≠ 0 ∧ e = .returned (.tuple #[.slice none 0 0, .slice none 0 0, errV (bfault P m f sink sz cz)])) ∨
   (bfault P m f sink sz cz = 0 ∧ ∃ (p s : Nat), P = (p : Int) ∧ sink = (s : Int) ∧ s < p ∧ GOk p m f ∧ sz.length = p ∧ cz.length = p ∧ (∀ k, k < p → SignOk s (fun k => deg f k m) k (sz.getD k 0)) ∧ cfault p s cz = 0 ∧
     ((∃ z : Int, z ≠ 0 ∧ walkL p s (bdG p m s f) (sgN sz) (sgN cz) (fun _ => 0) oz = .error z ∧ e = .returned (.tuple #[.slice none 0 0, .slice none 0 0, errV z])) ∨
      (∃ (b1 c1 b2 c2 : Nat) (u : Nat → Nat), walkL p s (bdG p m s f) (sgN sz) (sgN cz) (fun _ => 0) oz = .ok u ∧ Leg (bdG p m s f) (sgN sz) (sgN cz) u ∧ w.heap.size ≤ b1 ∧ w.heap.size ≤ b2 ∧ e = .returned (.tuple #[.slice (some ⟨b1, 0, none⟩) p c1, .slice (some ⟨b2, 0, none⟩) p c2, .nilIface]) ∧
        Ints.Is w' (some ⟨b1, 0, none⟩) p (lstF p fun k => (sgU (bdG p m s f) (sgN sz) u k : Int)) ∧ Ints.Is w' (some ⟨b2, 0, none⟩) p (lstF p fun k => (chU (bdG p m s f) (sgN sz) (sgN cz) u k : Int)))))) ∧ Below w.heap.size w w'
theorem drop_cons {l : List Int} {i : Nat} (h : i < l.length) : l.drop i = l.getD i 0 :: l.drop (i + 1) := by
  rw [List.getD_eq_getElem?_getD, List.getElem?_eq_getElem h]
  exact List.drop_eq_getElem_cons h

set_option maxHeartbeats 8000000 in
set_option maxRecDepth 1000000 in
theorem walk_any (P sink : Int) (ea : Option Addr) (m ec : Nat) (f : Nat → Nat → Int) (sa : Option Addr) (sn sc : Nat) (sz : List Int) (ca : Option Addr) (cn cc : Nat) (cz : List Int) (oa : Option Addr) (on oc : Nat) (oz : List Int) (w : World) (hE : Mem.Rows w ea m 3 (fun i j => .int .i64 (f i j))) (hm : m ≤ 9223372036854775807) (hS : Ints.Is w sa sn sz) (hC : Ints.Is w ca cn cz) (hcn : cn * 8 ≤ 140737488355328) (hsnil : sa = none → sn = 0) (hcnil : ca = none → cn = 0) (hO : Ints.Is w oa on oz) :
    Calls Tryd.prog 16 #[.agg #[.int .i64 P, .slice ea m ec], .int .i64 sink, .slice sa sn sc, .slice ca cn cc, .slice oa on oc] w (WalkPost P m f sink sz cz oz w) := by
  have HE := Lib.hid hE
  have HS := Lib.hid hS
  have HC := Lib.hid hC
  have HO := Lib.hid hO
  have HSN := Lib.hid hsnil
  have HCN := Lib.hid hcnil
  have HOL := Lib.hid hO.len
  have hol := hO.le
  unfold maxLen at hol
  clear hE hS hC hO hsnil hcnil
  go_enter Tryd.func16, Tryd.ntmps16
  go_upto_region 1 with fail
  have hR : Row (w.alloc (.cells #[.int .i64 P, .slice ea m ec] 24)) w.heap.size 24 [.int .i64 P, .slice ea m ec] := row_alloc w _ _
  have hB : Below w.heap.size w (w.alloc (.cells #[.int .i64 P, .slice ea m ec] 24)) := (Below.refl _ _).alloc (Nat.le_refl _) _
  have HG := Lib.hid hR
  have HB := Lib.hid hB
  clear hR hB
  generalize w.alloc (.cells #[.int .i64 P, .slice ea m ec] 24) = w1 at *
  obtain ⟨bg, hbg⟩ : ∃ bg, bg = w.heap.size := ⟨_, rfl⟩
  rw [← hbg] at HG ⊢
  clear hbg
  have l1 := row_range HG.out
  go_wp2_with (refine wpList_load_mid rfl 24 _ rfl bg 0 rfl _ _ l1 Tryd.underlying24 rfl infoGraph ?_)
  clear l1
  refine (board_any P sink ea m ec f sa sn sc sz ca cn cc cz w1 (rows_keep HE.out HB.out) hm (HS.out.keep HB.out) (HC.out.keep HB.out) hcn HSN.out HCN.out).mono ?_
  rintro e1 w2 ⟨⟨hf, rfl⟩ | ⟨hf, p, s, bb, x, rfl, rfl, hsp, hok, hszl, hczl, hsg, hcf, rfl, hbrd⟩, hb2⟩
  · have HB2 := Lib.hid (HB.out.trans (hb2.mono HB.out.size))
    have HF := Lib.hid hf
    rw [errV_some hf]
    clear hf hb2
    go_wp2_with fail
    go_ret3
    refine ⟨.inl ⟨HF.out, ?_⟩, HB2.out⟩
    rw [errV_some HF.out]
    rfl
  · have hbo : (bdG p m s f).Ok := bdG_ok hok hsp
    obtain ⟨_, hcs, hck⟩ := chips_ok hcf hsp
    have hbu := brdU_start hbrd hsp hsg hcf
    have hp10 := hok.p10
    have HF := Lib.hid hf
    have HOK := Lib.hid hok
    have HSZL := Lib.hid hszl
    have HCZL := Lib.hid hczl
    have HSG := Lib.hid hsg
    have HCF := Lib.hid hcf
    have HBO := Lib.hid hbo
    have hN1 : sumN (sgN cz) p ≤ 100000 := by
      have := sumN_le (F := sgN cz) (G := fun _ => 10000) (n := p) fun i hi => (hck i (by omega)).2
      rw [sumN_const] at this
      omega
    have HBU := Lib.hid hbu
    have HBW := Lib.hid hb2
    have HMO : Hid (∀ u p', Leg (bdG p m s f) (sgN sz) (sgN cz) u → p' < p → chU (bdG p m s f) (sgN sz) (sgN cz) u p' ≤ 100000) := fun u p' hl hp => Nat.le_trans (ch_most hbo hl hp) hN1
    obtain ⟨D, hD⟩ : ∃ D, D = walkL p s (bdG p m s f) (sgN sz) (sgN cz) (fun _ => 0) oz := ⟨_, rfl⟩
    have HD := Lib.hid hD
    clear hf hok hszl hczl hsg hcf hbo hcs hck hbu hbrd hb2 HC HS HE hD
    go_wp2_with fail
    go_loopw [30] (fun v wr => ∃ (i : Nat) (u : Nat → Nat), i ≤ on ∧ v = .int .i64 (i : Int) ∧ Leg (bdG p m s f) (sgN sz) (sgN cz) u ∧ BrdU wr w1.heap.size bb x p s m f (sgN sz) (sgN cz) u ∧ Below w1.heap.size w1 wr ∧ D = walkL p s (bdG p m s f) (sgN sz) (sgN cz) u (oz.drop i)) (fun v _ => on - (intOf v).toNat)
    case atStart => exact ⟨0, _, Nat.zero_le _, rfl, .zero, HBU.out, HBW.out, HD.out⟩
    case round =>
      clear HBU HBW
      obtain ⟨i, u, hi, rfl, hl, hbu, hbw, hd⟩ := hrel
      have HL := Lib.hid hl
      have HBU := Lib.hid hbu
      have HBW := Lib.hid hbw
      have HDI := Lib.hid hd
      have HBF := Lib.hid (HB.out.trans (hbw.mono HB.out.size))
      clear hl hbu hbw hd
      by_cases hlt : i < on
      · --{ROUND
        obtain ⟨b, off, rfl, _, hc⟩ := (HO.out.keep HBF.out).cells i hlt
        dsimp only at hc
        have HDR := Lib.hid (drop_cons (l := oz) (i := i) (by rw [HOL.out]; exact hlt))
        have g0 := (HG.out.keep HBW.out HG.out.lt).cell 0
        dsimp only [List.getElem?_cons_zero] at g0
        have hi2 : (i : Int) < (on : Int) := by omega
        obtain ⟨k, hk⟩ : ∃ k, k = oz.getD i 0 := ⟨_, rfl⟩
        rw [← hk] at hc HDR
        clear hk
        have HDW : Hid (D = if k < 0 ∨ (p : Int) ≤ k ∨ k = (s : Int) then .error 1 else if chU (bdG p m s f) (sgN sz) (sgN cz) u k.toNat = 0 then .error 7 else walkL p s (bdG p m s f) (sgN sz) (sgN cz) (bump u k.toNat 1) (oz.drop (i + 1))) := by
          show _ = _
          rw [HDI.out, HDR.out]
          rfl
        have HBAD : Hid (∀ z : Int, z ≠ 0 → D = .error z → WalkPost (p : Int) m f (s : Int) sz cz oz w (.returned (.tuple #[.slice none 0 0, .slice none 0 0, .iface 68 (.int .i64 z)])) wr) := fun z hz he => ⟨.inr ⟨HF.out, p, s, rfl, rfl, hsp, HOK.out, HSZL.out, HCZL.out, HSG.out, HCF.out, .inl ⟨z, hz, by rw [← HD.out]; exact he, by rw [errV_some hz]⟩⟩, HBF.out⟩
        by_cases h0 : k < 0
        · have he : D = .error 1 := by rw [HDW.out, if_pos (.inl h0)]
          have HX := Lib.hid (HBAD.out 1 (by decide) he)
          clear he
          go_wp2_with fail
          go_ret3
          exact HX.out
        by_cases h1 : (p : Int) ≤ k
        · have he : D = .error 1 := by rw [HDW.out, if_pos (.inr (.inl h1))]
          have HX := Lib.hid (HBAD.out 1 (by decide) he)
          clear he
          go_wp2_with fail
          go_ret3
          exact HX.out
        obtain ⟨q, rfl⟩ : ∃ q : Nat, k = (q : Int) := ⟨k.toNat, by omega⟩
        have hqp : q < p := by omega
        have d1 : decide ((p : Int) ≤ (q : Int)) = false := decide_eq_false h1
        clear h0 h1
        obtain ⟨bq, hbq⟩ : ∃ b, b = ((q : Int) == (s : Int)) := ⟨_, rfl⟩
        have q1 := hbq.symm
        have HBQ := Lib.hid hbq
        clear hbq
        cases bq
        case true =>
          have he : D = .error 1 := by rw [HDW.out, if_pos (.inr (.inr (eq_of_beq HBQ.out.symm)))]
          have HX := Lib.hid (HBAD.out 1 (by decide) he)
          clear he
          go_wp2_with fail
          go_ret3
          exact HX.out
        have hqs : q ≠ s := fun e => by
          have := HBQ.out
          rw [e, beq_self_eq_true] at this
          cases this
        have HQS := Lib.hid hqs
        have hne : ¬ ((q : Int) < 0 ∨ (p : Int) ≤ (q : Int) ∨ (q : Int) = (s : Int)) := by omega
        have HDW2 : Hid (D = if chU (bdG p m s f) (sgN sz) (sgN cz) u q = 0 then .error 7 else walkL p s (bdG p m s f) (sgN sz) (sgN cz) (bump u q 1) (oz.drop (i + 1))) := by
          show _ = _
          rw [HDW.out, if_neg hne]
          rfl
        clear hqs hne HDW
        have r3 := HBU.out.row.cell 3
        have c3 := HBU.out.ch.cell hqp
        have hmo := HMO.out u q HL.out hqp
        dsimp only [List.getElem?_cons_succ, List.getElem?_cons_zero] at r3
        have hq2 : (q : Int) < (p : Int) := by omega
        have HRUN : Hid (1 ≤ chU (bdG p m s f) (sgN sz) (sgN cz) u q → Calls Tryd.prog 34 #[.pointer (some ⟨bb, 0, none⟩), .int .i64 (q : Int), .int .i64 ((1 : Nat) : Int)] wr fun e w' => (∃ v, e = .returned v) ∧ BrdU w' w1.heap.size bb x p s m f (sgN sz) (sgN cz) (bump u q 1) ∧ Below w1.heap.size w1 w') := fun h =>
          run_any p s m f (sgN sz) (sgN cz) u x bb w1.heap.size q 1 w1 wr (Nat.le_refl _) HBW.out HBU.out HL.out HOK.out hsp hqp HQS.out h hN1
        have HLG : Hid (1 ≤ chU (bdG p m s f) (sgN sz) (sgN cz) u q → Leg (bdG p m s f) (sgN sz) (sgN cz) (bump u q 1)) := fun h => ch_leg HBO.out HL.out hqp HQS.out h
        obtain ⟨cq, hcq⟩ : ∃ z, z = chU (bdG p m s f) (sgN sz) (sgN cz) u q := ⟨_, rfl⟩
        rw [← hcq] at c3 hmo HRUN HLG HDW2
        clear hcq
        by_cases hz : cq = 0
        · have he : D = .error 7 := by rw [HDW2.out, if_pos hz]
          have HX := Lib.hid (HBAD.out 7 (by decide) he)
          have b1 : ((cq : Int) == 0) = true := by rw [hz]; rfl
          clear he hz
          go_wp2_with fail
          go_ret3
          exact HX.out
        · have HR := Lib.hid (HRUN.out (by omega))
          have HL2 := Lib.hid (HLG.out (by omega))
          have HD2 : Hid (D = walkL p s (bdG p m s f) (sgN sz) (sgN cz) (bump u q 1) (oz.drop (i + 1))) := by
            show _ = _
            rw [HDW2.out, if_neg hz]
          have b1 : ((cq : Int) == 0) = false := by rw [beq_eq_false_iff_ne]; omega
          clear hz HRUN HLG HDW2
          go_wp2_with fail
          refine HR.out.mono ?_
          rintro e1 w5 ⟨⟨v5, rfl⟩, hbu5, hb5⟩
          have HBU5 := Lib.hid hbu5
          have HB5 := Lib.hid hb5
          clear hbu5 hb5 HR
          go_wp2_with fail
          go_roundw
          case rel => exact ⟨i + 1, bump u q 1, by omega, by go_num, HL2.out, HBU5.out, HB5.out, HD2.out⟩
          case measure => simp [intOf]; omega
        --}
      · --{END
        obtain rfl : i = on := by omega
        have HFIN : Hid (walkL p s (bdG p m s f) (sgN sz) (sgN cz) (fun _ => 0) oz = .ok u) := by
          show _ = _
          rw [← HD.out, HDI.out, List.drop_of_length_le (by rw [HOL.out]; exact Nat.le_refl _)]
          rfl
        have r2 := HBU.out.row.cell 2
        have r3 := HBU.out.row.cell 3
        dsimp only [List.getElem?_cons_succ, List.getElem?_cons_zero] at r2 r3
        have hP1 : p ≤ maxLen := by unfold maxLen; omega
        have hdr : Below wr.heap.size wr wr.drew := (Below.refl _ _).drew
        have HI1 := Lib.hid ((HBU.out.sg.is hP1).keep hdr)
        have HI2 := Lib.hid ((HBU.out.ch.is hP1).keep hdr)
        have HBD := Lib.hid (HBF.out.trans (hdr.mono HBF.out.size))
        clear hdr
        go_upto_region 13 with fail
        refine wp_region_noPanic ?_
        go_region
        refine NoPanic.normal ?_
        clear r2 r3
        go_wp2_with fail
        go_ret3
        exact ⟨.inr ⟨HF.out, p, s, rfl, rfl, hsp, HOK.out, HSZL.out, HCZL.out, HSG.out, HCF.out, .inr ⟨x.bs, x.cs, x.bc, x.cc, u, HFIN.out, HL.out, Nat.le_trans HB.out.size HBU.out.ls, Nat.le_trans HB.out.size HBU.out.lc, rfl, HI1.out, HI2.out⟩⟩, HBD.out⟩
        --}
end Rt
end Go.Proofs.YtjikildiblchpaaDoor
