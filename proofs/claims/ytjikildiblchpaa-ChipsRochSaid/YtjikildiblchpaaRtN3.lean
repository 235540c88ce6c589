/- WALK: rotor.newBoard: its signs, its chips. -/
import Derived.Test.YtjikildiblchpaaRtB
namespace Go.Proofs.Ytjikildiblchpaa
set_option linter.unusedSimpArgs false
set_option linter.unusedVariables false
open Go.RowKit Go.Lib
namespace Rt
open Tld Mem
set_option maxHeartbeats 8000000 in
set_option maxRecDepth 1000000 in
theorem nb3 (P s m : Nat) (f : Nat → Nat → Int) (bg bb bw B : Nat) (LV : List Value) (vS vC vT : Value) (sa ca ea : Option Addr) (sc cn cc ec : Nat) (sz cz : List Int) (w0 w : World) (hP10 : P ≤ 10) (hs : s < P) (hm : m ≤ 9223372036854775807)
    (HGF : Hid (gfault (P : Int) m f = 0)) (HER : Hid (Mem.Rows w ea m 3 (fun i j => .int .i64 (f i j)))) (HG : Hid (Row w bg 24 [.int .i64 (P : Int), .slice ea m ec])) (HS : Hid (Ints.Is w sa P sz)) (HC : Hid (Ints.Is w ca cn cz)) (HBB : Hid (Row w bb 58 [.int .i64 (s : Int), .slice (some ⟨bw, 0, none⟩) P P, vS, vC, vT])) (HWY : Hid (Wys w B bw P (fun k => wayL f k m) LV))
    (c0 c5 c6 c7 c8 c9 c10 c12 c13 c14 c15 c16 c17 c18 c19 c20 c21 c22 c23 c24 c25 c26 c27 c28 c29 c30 c31 c32 c33 c34 c35 c36 c37 c38 c39 c40 c41 c42 c43 c44 c45 c46 c47 c48 c49 c50 c51 c52 c53 c54 c55 c56 c57 c58 c59 c60 c61 c62 c63 c64 c65 c66 c67 c68 c69 c70 c71 c72 c73 c74 c75 c76 c77 c78 c79 c80 c81 c82 c83 c84 c85 c86 c87 c88 c89 c90 c91 c92 c93 c94 c95 c96 c97 c98 c99 c100 c101 c102 c103 c104 c105 c106 c107 c108 c109 c110 c111 c112 c113 c114 c115 c116 c117 c118 c119 c120 c121 c122 c123 c124 c125 c126 c127 c128 c129 c130 c131 c132 c133 c134 c135 c136 c137 c138 c139 c140 c141 c142 c143 c144 c145 c146 c147 c148 c149 c150 c151 : Value) (Q : Exit → Act → World → Prop)
    (hbad : ∀ {u14 u15 u16 u17 u104 u105 u106 u107 u108 u109 u110 u111 u112 u113 u114 u115 u116 u117 u118 u119 u120 u121 u122 u123 u124 u125 u126 u127 u128 u129 u130 u131 u132 u133 u134 u135 u136 u137 u138 u139 u140 u141 u142 u143 u144 u145 u146 u147 u148 u149 u150 u151 : Value} {w' : World}, (∃ k, k < P ∧ ¬ SignOk s (fun k => deg f k m) k (sz.getD k 0)) → Below w.heap.size w w' → Q .ret ⟨#[c0, .int .i64 (s : Int), .slice sa P sc, .slice ca cn cc, .pointer (some ⟨bg, 0, none⟩), c5, c6, c7, .pointer none, .iface 59 (.int .i64 1), c10, .pointer (some ⟨bb, 0, none⟩), c12, c13, u14, u15, u16, u17, c18, c19, c20, c21, c22, c23, c24, c25, c26, c27, c28, c29, c30, c31, c32, c33, c34, c35, c36, c37, c38, c39, c40, c41, c42, c43, c44, c45, c46, c47, c48, c49, c50, c51, c52, c53, c54, c55, c56, c57, c58, c59, c60, c61, c62, c63, c64, c65, c66, c67, c68, c69, c70, c71, c72, c73, c74, c75, c76, c77, c78, c79, c80, c81, c82, c83, c84, c85, c86, c87, c88, c89, c90, c91, c92, c93, c94, c95, c96, c97, c98, c99, c100, c101, c102, c103, u104, u105, u106, u107, u108, u109, u110, u111, u112, u113, u114, u115, u116, u117, u118, u119, u120, u121, u122, u123, u124, u125, u126, u127, u128, u129, u130, u131, u132, u133, u134, u135, u136, u137, u138, u139, u140, u141, u142, u143, u144, u145, u146, u147, u148, u149, u150, u151], []⟩ w')
    (hchips : ∀ {u14 u15 u16 u17 u104 u105 u106 u107 u108 u109 u110 u111 u112 u113 u114 u115 u116 u117 u118 u119 u120 u121 u122 u123 u124 u125 u126 u127 u128 u129 u130 u131 u132 u133 u134 u135 u136 u137 u138 u139 u140 u141 u142 u143 u144 u145 u146 u147 u148 u149 u150 u151 : Value} {w' : World}, (∀ k, k < P → SignOk s (fun k => deg f k m) k (sz.getD k 0)) → cfault P s cz ≠ 0 → Below w.heap.size w w' → Q .ret ⟨#[c0, .int .i64 (s : Int), .slice sa P sc, .slice ca cn cc, .pointer (some ⟨bg, 0, none⟩), c5, c6, c7, .pointer none, .iface 59 (.int .i64 (cfault P s cz)), c10, .pointer (some ⟨bb, 0, none⟩), c12, c13, u14, u15, u16, u17, c18, c19, c20, c21, c22, c23, c24, c25, c26, c27, c28, c29, c30, c31, c32, c33, c34, c35, c36, c37, c38, c39, c40, c41, c42, c43, c44, c45, c46, c47, c48, c49, c50, c51, c52, c53, c54, c55, c56, c57, c58, c59, c60, c61, c62, c63, c64, c65, c66, c67, c68, c69, c70, c71, c72, c73, c74, c75, c76, c77, c78, c79, c80, c81, c82, c83, c84, c85, c86, c87, c88, c89, c90, c91, c92, c93, c94, c95, c96, c97, c98, c99, c100, c101, c102, c103, u104, u105, u106, u107, u108, u109, u110, u111, u112, u113, u114, u115, u116, u117, u118, u119, u120, u121, u122, u123, u124, u125, u126, u127, u128, u129, u130, u131, u132, u133, u134, u135, u136, u137, u138, u139, u140, u141, u142, u143, u144, u145, u146, u147, u148, u149, u150, u151], []⟩ w')
    (hok : ∀ {u14 u15 u16 u17 u104 u105 u106 u107 u108 u109 u110 u111 u112 u113 u114 u115 u116 u117 u118 u119 u120 u121 u122 u123 u124 u125 u126 u127 u128 u129 u130 u131 u132 u133 u134 u135 u136 u137 u138 u139 u140 u141 u142 u143 u144 u145 u146 u147 u148 u149 u150 u151 : Value} {w' : World}, (∀ k, k < P → SignOk s (fun k => deg f k m) k (sz.getD k 0)) → cfault P s cz = 0 → Below w.heap.size w w' → Q .ret ⟨#[c0, .int .i64 (s : Int), .slice sa P sc, .slice ca cn cc, .pointer (some ⟨bg, 0, none⟩), c5, c6, c7, .pointer (some ⟨bb, 0, none⟩), .nilIface, c10, .pointer (some ⟨bb, 0, none⟩), c12, c13, u14, u15, u16, u17, c18, c19, c20, c21, c22, c23, c24, c25, c26, c27, c28, c29, c30, c31, c32, c33, c34, c35, c36, c37, c38, c39, c40, c41, c42, c43, c44, c45, c46, c47, c48, c49, c50, c51, c52, c53, c54, c55, c56, c57, c58, c59, c60, c61, c62, c63, c64, c65, c66, c67, c68, c69, c70, c71, c72, c73, c74, c75, c76, c77, c78, c79, c80, c81, c82, c83, c84, c85, c86, c87, c88, c89, c90, c91, c92, c93, c94, c95, c96, c97, c98, c99, c100, c101, c102, c103, u104, u105, u106, u107, u108, u109, u110, u111, u112, u113, u114, u115, u116, u117, u118, u119, u120, u121, u122, u123, u124, u125, u126, u127, u128, u129, u130, u131, u132, u133, u134, u135, u136, u137, u138, u139, u140, u141, u142, u143, u144, u145, u146, u147, u148, u149, u150, u151], []⟩ w')
    : Code.wp Try.prog ((frs 17 (Try.f20.body.getD .skip)).getD .skip) Q ⟨#[c0, .int .i64 (s : Int), .slice sa P sc, .slice ca cn cc, .pointer (some ⟨bg, 0, none⟩), c5, c6, c7, c8, c9, c10, .pointer (some ⟨bb, 0, none⟩), c12, c13, c14, c15, c16, c17, c18, c19, c20, c21, c22, c23, c24, c25, c26, c27, c28, c29, c30, c31, c32, c33, c34, c35, c36, c37, c38, c39, c40, c41, c42, c43, c44, c45, c46, c47, c48, c49, c50, c51, c52, c53, c54, c55, c56, c57, c58, c59, c60, c61, c62, c63, c64, c65, c66, c67, c68, c69, c70, c71, c72, c73, c74, c75, c76, c77, c78, c79, c80, c81, c82, c83, c84, c85, c86, c87, c88, c89, c90, c91, c92, c93, c94, c95, c96, c97, c98, c99, c100, c101, c102, c103, c104, c105, c106, c107, c108, c109, c110, c111, c112, c113, c114, c115, c116, c117, c118, c119, c120, c121, c122, c123, c124, c125, c126, c127, c128, c129, c130, c131, c132, c133, c134, c135, c136, c137, c138, c139, c140, c141, c142, c143, c144, c145, c146, c147, c148, c149, c150, c151], []⟩ w := by
  conv => arg 2; whnf

  go_wp2_with fail
  go_loopw [106] (fun u wr => ∃ k : Nat, k ≤ P ∧ u = .int .i64 (k : Int) ∧ (∀ j, j < k → SignOk s (fun k => deg f k m) j (sz.getD j 0)) ∧ Below w.heap.size w wr) (fun u _ => P - (intOf u).toNat)
  case atStart => exact ⟨0, Nat.zero_le _, rfl, fun j hj => absurd hj (Nat.not_lt_zero _), Below.refl _ _⟩
  case round =>
    obtain ⟨k, hkP, rfl, hall, hbw⟩ := hrel
    have HALL := Lib.hid hall
    have HBW := Lib.hid hbw
    clear hall hbw
    by_cases hk : k < P
    · --{ROUND
      obtain ⟨v, hv1, hv2⟩ := HWY.out.own k hk
      obtain ⟨av, cv, rfl⟩ := own_slG hv2
      have hc1 := ((HWY.out.keep HBW.out).row.cell k).trans hv1
      have hb1 := (HBB.out.keep HBW.out HBB.out.lt).cell 1
      dsimp only [List.getElem?_cons_succ, List.getElem?_cons_zero] at hb1
      obtain ⟨bz, oz, rfl, _, hcz⟩ := (HS.out.keep HBW.out).cells k hk
      dsimp only at hcz
      have hk2 : (k : Int) < (P : Int) := by omega
      have HDG : Hid ((wayL f k m).length = deg f k m) := wayL_len (P := P)
      have HNX : Hid (SignOk s (fun k => deg f k m) k (sz.getD k 0) → ∀ j, j < k + 1 → SignOk s (fun k => deg f k m) j (sz.getD j 0)) := fun h j hj => by
        by_cases e : j = k
        · rw [e]; exact h
        · exact HALL.out j (by omega)
      have HBD : Hid (¬ SignOk s (fun k => deg f k m) k (sz.getD k 0) → ∃ k, k < P ∧ ¬ SignOk s (fun k => deg f k m) k (sz.getD k 0)) := fun h => ⟨k, hk, h⟩
      obtain ⟨d, hd⟩ : ∃ d, d = (wayL f k m).length := ⟨_, rfl⟩
      rw [← hd] at hc1 HDG
      obtain ⟨z, hz⟩ : ∃ z, z = sz.getD k 0 := ⟨_, rfl⟩
      rw [← hz] at hcz HNX HBD
      clear hd hz hv1 hv2
      by_cases hz0 : z < 0
      · have hno : ¬ SignOk s (fun k => deg f k m) k z := fun h => by have := h.1; omega
        go_wp2_with fail
        exact hbad (HBD.out hno) HBW.out
      have d0 : decide (z < 0) = false := decide_eq_false hz0
      obtain ⟨q, hq⟩ : ∃ q, q = ((k : Int) == (s : Int)) := ⟨_, rfl⟩
      have q1 := hq.symm
      have q2 : ((k : Int) != (s : Int)) = !q := by rw [hq]; rfl
      have HQ := Lib.hid hq
      have HZ0 := Lib.hid hz0
      clear hq hz0
      cases q
      case true =>
        have hks : k = s := by have := eq_of_beq HQ.out.symm; omega
        by_cases hz1 : z = 0
        · have b1 : (z != 0) = false := by rw [hz1]; rfl
          have hyes : SignOk s (fun k => deg f k m) k z := ⟨by omega, fun _ => hz1, fun h => absurd hks h⟩
          have HY := Lib.hid (HNX.out hyes)
          clear hz1 hyes hks
          go_wp2_with fail
          go_roundw
          case rel => exact ⟨k + 1, by omega, by go_num, HY.out, HBW.out⟩
          case measure => simp [intOf]; omega
        · have b1 : (z != 0) = true := by rw [bne_iff_ne]; exact hz1
          have hno : ¬ SignOk s (fun k => deg f k m) k z := fun h => hz1 (h.2.1 hks)
          clear hz1 hks
          go_wp2_with fail
          exact hbad (HBD.out hno) HBW.out
      case false =>
        have hks : k ≠ s := fun e => by
          have := HQ.out
          rw [e, beq_self_eq_true] at this
          cases this
        by_cases hz1 : (d : Int) ≤ z
        · have hno : ¬ SignOk s (fun k => deg f k m) k z := fun h => by
            have h1 := h.2.2 hks
            have h2 := HDG.out
            dsimp only at h1
            omega
          clear hks
          go_wp2_with fail
          exact hbad (HBD.out hno) HBW.out
        · have hyes : SignOk s (fun k => deg f k m) k z := ⟨by have := HZ0.out; omega, fun h => absurd h hks, fun _ => by
            have h2 := HDG.out
            dsimp only
            omega⟩
          have HY := Lib.hid (HNX.out hyes)
          clear hyes hks
          go_wp2_with fail
          go_roundw
          case rel => exact ⟨k + 1, by omega, by go_num, HY.out, HBW.out⟩
          case measure => simp [intOf]; omega
      --}
    · --{END
      obtain rfl : k = P := by omega
      have HI : Hid (ifault (k : Int) m f (s : Int) cz = cfault k s cz) := by
        show _ = _
        have := ifault_c (sink := (s : Int)) (cs := cz) HGF.out (by omega)
        rw [Int.toNat_natCast, Int.toNat_natCast] at this
        exact this
      have HG2 := Lib.hid (HG.out.keep HBW.out HG.out.lt)
      have l1 := row_range HG2.out
      go_wp2_with (refine wpList_load_mid rfl 24 _ rfl bg 0 rfl _ _ l1 Try.underlying24 rfl infoGraph ?_)
      clear l1
      refine (piles_any (k : Int) ea m ec f (s : Int) ca cn cc cz _ (HER.out.keep HBW.out) hm (HC.out.keep HBW.out)).mono ?_
      rintro e1 w2 ⟨⟨hf, rfl⟩ | ⟨hf, bn, rfl, _⟩, hb2⟩
      · rw [HI.out] at hf ⊢
        have HB2 := Lib.hid (HBW.out.trans (hb2.mono HBW.out.size))
        have HF := Lib.hid hf
        have he := errV_some hf
        rw [he]
        clear hf hb2 he
        go_wp2_with fail
        exact hchips HALL.out HF.out HB2.out
      · rw [HI.out] at hf
        have HB2 := Lib.hid (HBW.out.trans (hb2.mono HBW.out.size))
        have HF := Lib.hid hf
        clear hf hb2
        go_wp2_with fail
        exact hok HALL.out HF.out HB2.out
      --}
end Rt
end Go.Proofs.Ytjikildiblchpaa
