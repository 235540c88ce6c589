/- WALK: wang's search (filler.fill), what a ring asks. -/
import Derived.Test.YthggpjpmjhaidaaDoorWgD
import Derived.Test.YthggpjpmjhaidaaDoorPc
import Derived.Test.YthggpjpmjhaidaaDoorWgPl2
namespace Go.Proofs.YthggpjpmjhaidaaDoor
set_option linter.unusedSimpArgs false
set_option linter.unusedVariables false
open Go.RowKit Go.Lib
namespace Wg
open Tld Mem

set_option maxHeartbeats 4000000 in
set_option maxRecDepth 1000000 in
theorem dring (F M bt ot n tc W H x b3 b8 b9 : Nat) (ring : Bool) (tu tr' td tl' : Int) (r : Rm) (v' : Value) (w : World)
    (hW1 : 1 ≤ W) (hW5 : W ≤ 5) (hxW : x < W) (hp25 : r.pos ≤ 24) (h3 : b3 ≠ b9) (h8 : b8 ≠ b9) (hF9 : F ≠ b9)
    (HXR : Hid (r.x W = x)) (HR : Hid (Fine r)) (HOKT : Hid (Tl.ok ⟨tu, tr', td, tl'⟩ = true)) (HF7 : Hid (Row w F 105 (flL (some ⟨bt, ot, none⟩) n tc W H ring M v')))
    (HR7 : Hid (Row w b3 108 (rimL r))) (HT7 : Hid (Row w b8 89 [.int .i64 tu, .int .i64 tr', .int .i64 td, .int .i64 tl'])) (HROW9 : Hid (Row w b9 108 (rimL (r.step W ⟨tu, tr', td, tl'⟩))))
    (c1 c2 c4 c5 c7 c10 c11 c12 c13 c14 c15 c16 c17 c18 c19 c20 c21 c22 c23 c24 c25 c26 c27 c28 c29 c30 c31 c32 c33 c34 c35 c36 c37 c38 c39 c40 c41 c42 c43 c44 c45 c46 c47 c48 c49 c50 c51 c52 c53 c54 c55 c56 c57 c58 c59 c60 c61 c62 c63 c64 c65 c66 c67 c68 c69 c70 c71 c72 c73 c74 c75 c76 c77 c78 c79 c80 c81 c82 c83 c84 c85 c86 c87 c88 c89 c90 c91 c92 c93 c94 c95 c96 c97 c98 c99 c100 c101 c102 c103 c104 c105 c106 c107 c108 c109 c110 c111 c112 c113 c114 c115 c116 c117 c118 c119 c120 c121 c122 c123 c124 c125 c126 c127 c128 c129 c130 c131 c132 c133 c134 c135 c136 c137 c138 c139 c140 c141 c142 c143 c144 c145 c146 c147 c148 c149 c150 c151 c152 c153 c154 c155 c156 c157 c158 c159 c160 c161 c162 c163 c164 c165 c166 c167 c168 c169 c170 : Value) (Q : Exit → Act → World → Prop)
    (hnext : ∀ {u105 u106 u107 u108 u109 u110 u111 u112 u113 u114 u115 u116 u117 u118 u119 u120 u121 u122 u123 u124 u125 u126 u127 u128 u129 u130 u131 u132 u133 u134 u135 u136 u137 u138 u139 u140 u141 : Value} {w' : World}, Row w' b9 108 (rimL (r.next W ring ⟨tu, tr', td, tl'⟩)) → Only b9 w w' → (ring = true → x = W - 1 → tr' = (r.next W ring ⟨tu, tr', td, tl'⟩).first.getD 0 0) → Q .normal ⟨#[.pointer (some ⟨F, 0, none⟩), c1, c2, .pointer (some ⟨b3, 0, none⟩), c4, c5, .int .i64 (x : Int), c7, .pointer (some ⟨b8, 0, none⟩), .pointer (some ⟨b9, 0, none⟩), c10, c11, c12, c13, c14, c15, c16, c17, c18, c19, c20, c21, c22, c23, c24, c25, c26, c27, c28, c29, c30, c31, c32, c33, c34, c35, c36, c37, c38, c39, c40, c41, c42, c43, c44, c45, c46, c47, c48, c49, c50, c51, c52, c53, c54, c55, c56, c57, c58, c59, c60, c61, c62, c63, c64, c65, c66, c67, c68, c69, c70, c71, c72, c73, c74, c75, c76, c77, c78, c79, c80, c81, c82, c83, c84, c85, c86, c87, c88, c89, c90, c91, c92, c93, c94, c95, c96, c97, c98, c99, c100, c101, c102, c103, c104, u105, u106, u107, u108, u109, u110, u111, u112, u113, u114, u115, u116, u117, u118, u119, u120, u121, u122, u123, u124, u125, u126, u127, u128, u129, u130, u131, u132, u133, u134, u135, u136, u137, u138, u139, u140, u141, c142, c143, c144, c145, c146, c147, c148, c149, c150, c151, c152, c153, c154, c155, c156, c157, c158, c159, c160, c161, c162, c163, c164, c165, c166, c167, c168, c169, c170], []⟩ w')
    (hcont : ∀ {u105 u106 u107 u108 u109 u110 u111 u112 u113 u114 u115 u116 u117 u118 u119 u120 u121 u122 u123 u124 u125 u126 u127 u128 u129 u130 u131 u132 u133 u134 u135 u136 u137 u138 u139 u140 u141 : Value} {w' : World}, Only b9 w w' → ¬ r.May W ring ⟨tu, tr', td, tl'⟩ → Q (.exit 3) ⟨#[.pointer (some ⟨F, 0, none⟩), c1, c2, .pointer (some ⟨b3, 0, none⟩), c4, c5, .int .i64 (x : Int), c7, .pointer (some ⟨b8, 0, none⟩), .pointer (some ⟨b9, 0, none⟩), c10, c11, c12, c13, c14, c15, c16, c17, c18, c19, c20, c21, c22, c23, c24, c25, c26, c27, c28, c29, c30, c31, c32, c33, c34, c35, c36, c37, c38, c39, c40, c41, c42, c43, c44, c45, c46, c47, c48, c49, c50, c51, c52, c53, c54, c55, c56, c57, c58, c59, c60, c61, c62, c63, c64, c65, c66, c67, c68, c69, c70, c71, c72, c73, c74, c75, c76, c77, c78, c79, c80, c81, c82, c83, c84, c85, c86, c87, c88, c89, c90, c91, c92, c93, c94, c95, c96, c97, c98, c99, c100, c101, c102, c103, c104, u105, u106, u107, u108, u109, u110, u111, u112, u113, u114, u115, u116, u117, u118, u119, u120, u121, u122, u123, u124, u125, u126, u127, u128, u129, u130, u131, u132, u133, u134, u135, u136, u137, u138, u139, u140, u141, c142, c143, c144, c145, c146, c147, c148, c149, c150, c151, c152, c153, c154, c155, c156, c157, c158, c159, c160, c161, c162, c163, c164, c165, c166, c167, c168, c169, c170], []⟩ w')
    : Code.wp Tryd.prog ((Pc.frm 21 (Tryd.f57.body.getD .skip)).getD .skip) Q ⟨#[.pointer (some ⟨F, 0, none⟩), c1, c2, .pointer (some ⟨b3, 0, none⟩), c4, c5, .int .i64 (x : Int), c7, .pointer (some ⟨b8, 0, none⟩), .pointer (some ⟨b9, 0, none⟩), c10, c11, c12, c13, c14, c15, c16, c17, c18, c19, c20, c21, c22, c23, c24, c25, c26, c27, c28, c29, c30, c31, c32, c33, c34, c35, c36, c37, c38, c39, c40, c41, c42, c43, c44, c45, c46, c47, c48, c49, c50, c51, c52, c53, c54, c55, c56, c57, c58, c59, c60, c61, c62, c63, c64, c65, c66, c67, c68, c69, c70, c71, c72, c73, c74, c75, c76, c77, c78, c79, c80, c81, c82, c83, c84, c85, c86, c87, c88, c89, c90, c91, c92, c93, c94, c95, c96, c97, c98, c99, c100, c101, c102, c103, c104, c105, c106, c107, c108, c109, c110, c111, c112, c113, c114, c115, c116, c117, c118, c119, c120, c121, c122, c123, c124, c125, c126, c127, c128, c129, c130, c131, c132, c133, c134, c135, c136, c137, c138, c139, c140, c141, c142, c143, c144, c145, c146, c147, c148, c149, c150, c151, c152, c153, c154, c155, c156, c157, c158, c159, c160, c161, c162, c163, c164, c165, c166, c167, c168, c169, c170], []⟩ w := by
  conv => arg 2; whnf
  have hx5 : (x : Int) < 5 := by omega
  have hlens : r.over.length = 5 ∧ r.first.length = 5 ∧ r.top.length = 5 := ⟨HR.out.lover, HR.out.lfirst, HR.out.ltop⟩
  have HLN := Lib.hid hlens
  have f3 := HF7.out.cell 3
  unfold flL at f3
  dsimp only [List.getElem?_cons_succ, List.getElem?_cons_zero] at f3
  clear hlens
  go_upto_if 108 with fail
  cases ring
  case false =>
    go_wp2_with fail
    exact hnext (by rw [← step_next]; exact HROW9.out) (Only.refl _ _) (fun h => by cases h)
  case true =>
    have m0 := HR7.out.cell 0
    rw [rimL_pos] at m0
    have f1 := HF7.out.cell 1
    unfold flL at f1
    dsimp only [List.getElem?_cons_succ, List.getElem?_cons_zero] at f1
    obtain ⟨p, hp⟩ : ∃ p : Bool, p = decide (r.pos < W) := ⟨_, rfl⟩
    have p1 : decide ((r.pos : Int) < (W : Int)) = p := by rw [hp]; exact decide_eq_decide.2 (by omega)
    have p2 : decide (r.pos < W) = p := hp.symm
    have HPP := Lib.hid hp
    clear hp
    go_upto_region 22 with fail
    go_big_quiet (fail)
    have HROW10 := Lib.hid (HROW9.out.drewN nq)
    have HON10 := Lib.hid (only_drewN (Only.refl b9 w) nq)
    clear HROW9 m0 f1 f3 p1 p2
    generalize w.drewN nq = w10 at *
    go_upto_if 115 with fail
    go_cut [] from 116 to 120 (fun wx => Row wx b9 108 (rimL (r.step2 W ⟨tu, tr', td, tl'⟩)) ∧ Only b9 w wx)
    case first =>
      cases p
      case true =>
        have t0 := (HT7.out.other HON10.out h8).cell 0
        dsimp only [List.getElem?_cons_succ, List.getElem?_cons_zero] at t0
        have h17 : (rimL (r.step W ⟨tu, tr', td, tl'⟩)).length = 17 := rimL_len5 (by unfold Rm.step; simp [HLN.out.1]) HLN.out.2.1 HLN.out.2.2
        obtain ⟨v12, c12⟩ := row_at HROW10.out (i := 12 + x) (by rw [h17]; omega)
        have z12 := HROW10.out.frozen (12 + x)
        have hrow11 := HROW10.out.set (12 + x) (.int .i64 tu)
        have hon11 := HON10.out.trans (only_setCell w10 b9 (12 + x) (.int .i64 tu))
        rw [rimL_set_top (r := r.step W ⟨tu, tr', td, tl'⟩) (by unfold Rm.step; simp [HLN.out.1]) HLN.out.2.1 HLN.out.2.2 (x := x) (by omega)] at hrow11
        have HROW11 := Lib.hid hrow11
        have HON11 := Lib.hid hon11
        clear h17 hrow11 hon11
        go_wp2_with fail
        go_meet
        case rel =>
          refine ⟨?_, HON11.out⟩
          have e : r.step2 W ⟨tu, tr', td, tl'⟩ = { r.step W ⟨tu, tr', td, tl'⟩ with top := r.top.set x tu } := by
            unfold Rm.step2; rw [if_pos (of_decide_eq_true HPP.out.symm), HXR.out]
          rw [e]; exact HROW11.out
      case false =>
        go_wp2_with fail
        go_meet
        case rel =>
          refine ⟨?_, HON10.out⟩
          have e : r.step2 W ⟨tu, tr', td, tl'⟩ = r.step W ⟨tu, tr', td, tl'⟩ := by
            unfold Rm.step2; rw [if_neg (of_decide_eq_false HPP.out.symm)]; rfl
          rw [e]; exact HROW10.out
    case rest =>
    obtain ⟨hrow11, hon11⟩ := hcut
    have HROW11 := Lib.hid hrow11
    have HON11 := Lib.hid hon11
    clear hrow11 hon11 HROW10 HON10 HPP
    obtain ⟨w11, hwe⟩ : ∃ w2 : World, w2 = wc := ⟨_, rfl⟩
    rw [← hwe] at HROW11 HON11 ⊢
    clear hwe
    obtain ⟨p, hp⟩ : ∃ p : Bool, p = decide (x = 0) := ⟨_, rfl⟩
    have p1 : ((x : Int) == 0) = p := by
      rw [hp, Bool.eq_iff_iff, beq_iff_eq, decide_eq_true_iff]; omega
    have p2 : decide (x = 0) = p := hp.symm
    have HPP := Lib.hid hp
    clear hp
    have p3 : (x == 0) = p := by
      rw [HPP.out, Bool.eq_iff_iff, beq_iff_eq, decide_eq_true_iff]
    go_upto_if 122 with fail
    clear p1 p2 p3
    go_cut [] from 123 to 126 (fun wx => Row wx b9 108 (rimL (r.next W true ⟨tu, tr', td, tl'⟩)) ∧ Only b9 w wx)
    case first =>
      cases p
      case true =>
        have t3 := (HT7.out.other HON11.out h8).cell 3
        dsimp only [List.getElem?_cons_succ, List.getElem?_cons_zero] at t3
        have hl3 : (r.step2 W ⟨tu, tr', td, tl'⟩).over.length = 5 ∧ (r.step2 W ⟨tu, tr', td, tl'⟩).first.length = 5 ∧ (r.step2 W ⟨tu, tr', td, tl'⟩).top.length = 5 := by
          refine ⟨by unfold Rm.step2 Rm.step; simp [HLN.out.1], HLN.out.2.1, ?_⟩
          unfold Rm.step2; simp only; split <;> simp [HLN.out.2.2]
        have h17 : (rimL (r.step2 W ⟨tu, tr', td, tl'⟩)).length = 17 := rimL_len5 hl3.1 hl3.2.1 hl3.2.2
        obtain ⟨v7, c7⟩ := row_at HROW11.out (i := 7) (by rw [h17]; omega)
        have z7 := HROW11.out.frozen 7
        have hrow12 := HROW11.out.set 7 (.int .i64 tl')
        have hon12 := HON11.out.trans (only_setCell w11 b9 7 (.int .i64 tl'))
        rw [rimL_set_first (r := r.step2 W ⟨tu, tr', td, tl'⟩) hl3.1 hl3.2.1] at hrow12
        have HROW12 := Lib.hid hrow12
        have HON12 := Lib.hid hon12
        clear h17 hrow12 hon12 hl3
        go_wp2_with fail
        go_meet
        case rel =>
          refine ⟨?_, HON12.out⟩
          have h0 : x = 0 := of_decide_eq_true HPP.out.symm
          rw [← step2_next, if_pos (by rw [HXR.out]; exact h0)]; exact HROW12.out
      case false =>
        go_wp2_with fail
        go_meet
        case rel =>
          refine ⟨?_, HON11.out⟩
          have h0 : ¬ x = 0 := of_decide_eq_false HPP.out.symm
          rw [← step2_next, if_neg (by rw [HXR.out]; exact h0)]; exact HROW11.out
    case rest =>
    obtain ⟨hrow11, hon11⟩ := hcut
    have HROW12 := Lib.hid hrow11
    have HON12 := Lib.hid hon11
    clear hrow11 hon11 HROW11 HON11 HPP
    obtain ⟨w12, hwe⟩ : ∃ w2 : World, w2 = wc := ⟨_, rfl⟩
    rw [← hwe] at HROW12 HON12 ⊢
    clear hwe
    have f1 := (HF7.out.other HON12.out hF9).cell 1
    unfold flL at f1
    dsimp only [List.getElem?_cons_succ, List.getElem?_cons_zero] at f1
    have t1 := (HT7.out.other HON12.out h8).cell 1
    dsimp only [List.getElem?_cons_succ, List.getElem?_cons_zero] at t1
    have HFN : Hid (Fine (r.next W true ⟨tu, tr', td, tl'⟩)) := HR.out.next (by omega) HOKT.out
    have c7 := (HROW12.out.cell (7 + 0)).trans (rimL_first HFN.out (by omega))
    rw [Nat.add_zero] at c7
    obtain ⟨z, hz⟩ : ∃ z, z = (r.next W true ⟨tu, tr', td, tl'⟩).first.getD 0 0 := ⟨_, rfl⟩
    have HZ := Lib.hid hz
    rw [← hz] at c7
    clear hz
    by_cases hxw : x = W - 1
    case neg =>
      have p1 : ((x : Int) == (W : Int) - 1) = false := by rw [beq_eq_false_iff_ne]; omega
      have HXW := Lib.hid hxw
      clear hxw
      go_wp2_with fail
      exact hnext HROW12.out HON12.out (fun _ h => absurd h HXW.out)
    case pos =>
      have p1 : ((x : Int) == (W : Int) - 1) = true := by rw [beq_iff_eq]; omega
      have HXW := Lib.hid hxw
      clear hxw
      by_cases htz : tr' = z
      case pos =>
        have p2 : (tr' != z) = false ∧ (tr' == z) = true := by simp [htz]
        obtain ⟨p2, p3⟩ := p2
        have HTZ := Lib.hid htz
        clear htz
        go_wp2_with fail
        exact hnext HROW12.out HON12.out (fun _ _ => HTZ.out.trans HZ.out)
      case neg =>
        have p2 : (tr' != z) = true ∧ (tr' == z) = false := by simp [htz]
        obtain ⟨p2, p3⟩ := p2
        have HN : Hid (¬ r.May W true ⟨tu, tr', td, tl'⟩) := fun hm => htz (by rw [HZ.out]; exact hm.rim rfl (by rw [HXR.out]; exact HXW.out))
        clear htz
        go_wp2_with fail
        exact hcont HON12.out HN.out
end Wg
end Go.Proofs.YthggpjpmjhaidaaDoor
