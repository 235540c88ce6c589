/- WALK: chips.reduced: what does not burn from the place on gives. Printed by gens/chred.py. -/
import Derived.Test.YtjikildiblchpaaChR1
import Derived.Test.YtjikildiblchpaaChM
namespace Go.Proofs.Ytjikildiblchpaa
set_option linter.unusedSimpArgs false
set_option linter.unusedVariables false
open Go.RowKit Go.Lib
namespace Ch
open Tld Mem Rt

def cntB (P : Nat) (b : Nat → Bool) : Nat := sumN (fun k => ind (b k = true)) P
theorem cntB_le {P : Nat} {b : Nat → Bool} : cntB P b ≤ P := by
  have h := sumN_le (F := fun k => ind (b k = true)) (G := fun _ => 1) (n := P) fun k _ => ind_le
  rw [sumN_const] at h
  unfold cntB
  omega
theorem cntB_add {P : Nat} {b : Nat → Bool} {k : Nat} (hk : k < P) (h : b k = false) : cntB P (setB b k true) = cntB P b + 1 := by
  have e := sumN_pick (a := k) (n := P)
  rw [ind_yes hk] at e
  unfold cntB
  rw [← e, ← sumN_add]
  refine sumN_congr fun j _ => ?_
  unfold setB
  by_cases hj : j = k
  · rw [if_pos hj, ind_yes rfl, hj, ind_no (by rw [h]; decide), ind_yes rfl]
  · rw [if_neg hj, ind_no (show ¬ k = j from fun e => hj e.symm), Nat.add_zero]
theorem updB_setB {b : Nat → Bool} {k : Nat} : updB b k true = setB b k true := rfl

set_option maxHeartbeats 8000000 in
set_option maxRecDepth 1000000 in
theorem red2 (P a : Nat) (E : Nat → Nat → Nat) (Dg : Nat → Nat) (D : Nat → Int) (bn bd cd : Nat) (w0 w : World) (hG : Gr P E) (ha : a < P)
    (HN : Hid (Net w0 bn P E Dg)) (HB0 : Hid (Below w0.heap.size w0 w)) (hbd : w0.heap.size ≤ bd) (HD : Hid (Vec w bd P D)) (hb : ∀ k, k < P → -9000000000000000000 ≤ D k ∧ D k ≤ 9000000000000000000) (hpos : ∀ k, k < P → k ≠ a → 0 ≤ D k)
    (c3 c4 c5 c6 c7 c8 c9 c10 c11 c12 c13 c14 c15 c16 c17 c18 c19 c20 c21 c22 c23 c24 c25 c26 c27 c28 c29 c30 c31 c32 c33 c34 c35 c36 c37 c38 c39 c40 c41 c42 c43 c44 c45 c46 c47 c48 c49 c50 c51 c52 c53 c54 c55 c56 c57 c58 c59 c60 c61 c62 c63 c64 c65 c66 c67 c68 c69 c70 c71 c72 c73 c74 c75 c76 c77 c78 c79 c80 c81 c82 c83 c84 c85 c86 c87 c88 c89 c90 c91 c92 c93 c94 c95 c96 c97 c98 c99 c100 c101 c102 c103 c104 c105 c106 c107 c108 c109 c110 c111 c112 c113 c114 c115 c116 c117 c118 c119 c120 c121 c122 c123 c124 c125 c126 c127 c128 c129 c130 c131 c132 c133 c134 c135 c136 c137 c138 c139 c140 c141 c142 c143 c144 c145 c146 c147 c148 c149 c150 c151 c152 c153 c154 c155 c156 c157 c158 c159 c160 c161 c162 c163 c164 c165 c166 c167 c168 c169 c170 c171 c172 c173 c174 c175 c176 c177 c178 c179 c180 c181 c182 c183 c184 : Value) (Q : Exit → Act → World → Prop)
    (hret : ∀ {u17 u18 u19 u20 u21 u22 u23 u109 u110 u111 u112 u113 u114 u115 u116 u117 u118 u119 u120 u121 u122 u123 u124 u125 u126 u127 u128 u129 u130 u131 u132 u133 u134 u135 u136 u137 u138 u139 u140 u141 u142 u143 u144 u145 u146 u147 u148 u149 u150 u151 u152 u153 u154 u155 u156 u157 u158 u159 u160 u161 u162 u163 u164 u165 u166 u167 u168 u169 u170 u171 u172 u173 u174 u175 u176 u177 u178 u179 u180 u181 u182 u183 u184 : Value} {w' : World}, Reduced P E D a → Vec w' bd P D → Chg (fun b => b = bd) w w' → Q .ret ⟨#[.pointer (some ⟨bn, 0, none⟩), .slice (some ⟨bd, 0, none⟩) P cd, .int .i64 (a : Int), c3, c4, c5, .slice (some ⟨bd, 0, none⟩) P cd, c7, c8, c9, c10, c11, c12, c13, c14, c15, c16, u17, u18, u19, u20, u21, u22, u23, c24, c25, c26, c27, c28, c29, c30, c31, c32, c33, c34, c35, c36, c37, c38, c39, c40, c41, c42, c43, c44, c45, c46, c47, c48, c49, c50, c51, c52, c53, c54, c55, c56, c57, c58, c59, c60, c61, c62, c63, c64, c65, c66, c67, c68, c69, c70, c71, c72, c73, c74, c75, c76, c77, c78, c79, c80, c81, c82, c83, c84, c85, c86, c87, c88, c89, c90, c91, c92, c93, c94, c95, c96, c97, c98, c99, c100, c101, c102, c103, c104, c105, c106, c107, c108, u109, u110, u111, u112, u113, u114, u115, u116, u117, u118, u119, u120, u121, u122, u123, u124, u125, u126, u127, u128, u129, u130, u131, u132, u133, u134, u135, u136, u137, u138, u139, u140, u141, u142, u143, u144, u145, u146, u147, u148, u149, u150, u151, u152, u153, u154, u155, u156, u157, u158, u159, u160, u161, u162, u163, u164, u165, u166, u167, u168, u169, u170, u171, u172, u173, u174, u175, u176, u177, u178, u179, u180, u181, u182, u183, u184], []⟩ w')
    (hok : ∀ {u6 u17 u18 u19 u20 u21 u22 u23 u109 u110 u111 u112 u113 u114 u115 u116 u117 u118 u119 u120 u121 u122 u123 u124 u125 u126 u127 u128 u129 u130 u131 u132 u133 u134 u135 u136 u137 u138 u139 u140 u141 u142 u143 u144 u145 u146 u147 u148 u149 u150 u151 u152 u153 u154 u155 u156 u157 u158 u159 u160 u161 u162 u163 u164 u165 u166 u167 u168 u169 u170 u171 u172 u173 u174 u175 u176 u177 u178 u179 u180 u181 u182 u183 u184 : Value} {w' : World}, (∃ (S : Nat → Bool) (t : Int) (x : Nat), S a = false ∧ x < P ∧ S x = true ∧ Often P E D S t ∧ Vec w' bd P (fun k => wrap64 (fireZ P E D S t k))) → Chg (fun b => b = bd) w w' → Q .normal ⟨#[.pointer (some ⟨bn, 0, none⟩), .slice (some ⟨bd, 0, none⟩) P cd, .int .i64 (a : Int), c3, c4, c5, u6, c7, c8, c9, c10, c11, c12, c13, c14, c15, c16, u17, u18, u19, u20, u21, u22, u23, c24, c25, c26, c27, c28, c29, c30, c31, c32, c33, c34, c35, c36, c37, c38, c39, c40, c41, c42, c43, c44, c45, c46, c47, c48, c49, c50, c51, c52, c53, c54, c55, c56, c57, c58, c59, c60, c61, c62, c63, c64, c65, c66, c67, c68, c69, c70, c71, c72, c73, c74, c75, c76, c77, c78, c79, c80, c81, c82, c83, c84, c85, c86, c87, c88, c89, c90, c91, c92, c93, c94, c95, c96, c97, c98, c99, c100, c101, c102, c103, c104, c105, c106, c107, c108, u109, u110, u111, u112, u113, u114, u115, u116, u117, u118, u119, u120, u121, u122, u123, u124, u125, u126, u127, u128, u129, u130, u131, u132, u133, u134, u135, u136, u137, u138, u139, u140, u141, u142, u143, u144, u145, u146, u147, u148, u149, u150, u151, u152, u153, u154, u155, u156, u157, u158, u159, u160, u161, u162, u163, u164, u165, u166, u167, u168, u169, u170, u171, u172, u173, u174, u175, u176, u177, u178, u179, u180, u181, u182, u183, u184], []⟩ w')
    : Code.wp Try.prog ((Pc.frm 29 (Try.f23.body.getD .skip)).getD .skip) Q ⟨#[.pointer (some ⟨bn, 0, none⟩), .slice (some ⟨bd, 0, none⟩) P cd, .int .i64 (a : Int), c3, c4, c5, c6, c7, c8, c9, c10, c11, c12, c13, c14, c15, c16, c17, c18, c19, c20, c21, c22, c23, c24, c25, c26, c27, c28, c29, c30, c31, c32, c33, c34, c35, c36, c37, c38, c39, c40, c41, c42, c43, c44, c45, c46, c47, c48, c49, c50, c51, c52, c53, c54, c55, c56, c57, c58, c59, c60, c61, c62, c63, c64, c65, c66, c67, c68, c69, c70, c71, c72, c73, c74, c75, c76, c77, c78, c79, c80, c81, c82, c83, c84, c85, c86, c87, c88, c89, c90, c91, c92, c93, c94, c95, c96, c97, c98, c99, c100, c101, c102, c103, c104, c105, c106, c107, c108, c109, c110, c111, c112, c113, c114, c115, c116, c117, c118, c119, c120, c121, c122, c123, c124, c125, c126, c127, c128, c129, c130, c131, c132, c133, c134, c135, c136, c137, c138, c139, c140, c141, c142, c143, c144, c145, c146, c147, c148, c149, c150, c151, c152, c153, c154, c155, c156, c157, c158, c159, c160, c161, c162, c163, c164, c165, c166, c167, c168, c169, c170, c171, c172, c173, c174, c175, c176, c177, c178, c179, c180, c181, c182, c183, c184], []⟩ w := by
  conv => arg 2; whnf
  have hP := hG.p10
  have HGR := Lib.hid hG
  have HBD := Lib.hid hb
  have HPOS := Lib.hid hpos
  have HE4 : Hid (∀ k o, k < P → o < P → E k o ≤ 4000) := fun k o hk ho => Nat.le_trans (sumN_one (F := fun o => E k o) ho) (hG.few k hk)
  have hmk := mk_bools P hP
  have ha2 : (a : Int) < (P : Int) := by omega
  clear hb hG hpos
  go_upto_region 30 with fail
  have HS0 := Lib.hid (vecB_made w P)
  have hal : Below w.heap.size w (w.alloc (.cells (Array.replicate P (Value.bool false)) 4)) := (Below.refl _ _).alloc (Nat.le_refl _) _
  have HD1 := Lib.hid (HD.out.keep hal HD.out.lt)
  have HB1 := Lib.hid hal
  obtain ⟨bs, hbse⟩ : ∃ b, b = w.heap.size := ⟨_, rfl⟩
  rw [← hbse] at HS0
  rw [← hbse]
  have hbsd : bs ≠ bd := by have := HD.out.lt; omega
  have hbw : w.heap.size ≤ bs := by omega
  clear hal hmk hbse
  generalize w.alloc (.cells (Array.replicate P (Value.bool false)) 4) = w1 at *
  have s1 := HS0.out.cell ha
  have z1 := HS0.out.frozen a
  have o1 := only_setCell w1 bs a (.bool true)
  have HS1 := Lib.hid ((HS0.out.set ha true).congr (G := fun k => decide (k = a)) fun j hj => by
    by_cases e : j = a
    · rw [e, updB_at, decide_eq_true rfl]
    · rw [updB_no e, decide_eq_false e])
  have HO1 := Lib.hid o1
  have HBN : Hid (Burn P E D a (fun k => decide (k = a))) := .start
  clear o1
  go_upto_region 31 with fail
  clear s1 z1 HS0
  generalize hw2 : w1.setCell ⟨bs, a, none⟩ (.bool true) = w2 at *
  clear hw2
  go_wp2_with fail
  go_loopg [18] (2 * (P - cntB P (fun k => decide (k = a))) + 1) (fun g z wr => ∃ (q : Bool) (b : Nat → Bool), z = .bool q ∧ Burn P E D a b ∧ VecB wr bs P b ∧ Only bs w1 wr ∧ (q = false → ∀ k, k < P → b k = false → (inS P E b k : Int) ≤ D k) ∧ g = 2 * (P - cntB P b) + (if q = true then 1 else 0))
  case atStart => exact ⟨true, _, rfl, HBN.out, HS1.out, HO1.out, fun h => (by cases h), rfl⟩
  case round =>
    clear HS1 HO1 HBN
    obtain ⟨q, b, rfl, hbn, hs, ho, hz, hg⟩ := hrel
    have HBN := Lib.hid hbn
    have HS := Lib.hid hs
    have HO := Lib.hid ho
    have HZ := Lib.hid hz
    have HGK := Lib.hid hg
    clear hbn hs ho hz hg
    have HDW := Lib.hid (HD1.out.other HO.out (Ne.symm hbsd))
    have HBX := Lib.hid (HB1.out.trans (HO.out.below hbw))
    have HBW := Lib.hid (HB0.out.trans (HBX.out.mono HB0.out.size))
    cases q
    case false =>
      have HC := Lib.hid (bcontains_any bs P P b wr HS.out hP)
      go_wp2_with fail
      refine HC.out.mono ?_
      rintro e1 w3 ⟨⟨⟨x, hx, hbx⟩, rfl⟩ | ⟨hall, rfl⟩, rfl⟩
      · --{GIVES
        have HLG : Hid (Legal P E D a (fun j => !b j)) := HBN.out.rest (HZ.out (by trivial))
        have HXX : Hid (b x = false) := hbx
        clear hbx HC
        obtain ⟨w4, rfl⟩ : ∃ wo : World, wo = w3 := ⟨_, rfl⟩
        go_wp2_with fail
        go_loopw [165] (fun z wr => ∃ k : Nat, k ≤ P ∧ z = .int .i64 (k : Int) ∧ VecB wr bs P (fun j => if j < k then !b j else b j) ∧ Only bs w1 wr) (fun z _ => P - (intOf z).toNat)
        case atStart => exact ⟨0, Nat.zero_le _, rfl, HS.out.congr fun j hj => by rw [if_neg (Nat.not_lt_zero _)], HO.out⟩
        case round =>
          clear HS HO HDW HBX HBW
          obtain ⟨k, hkP, rfl, hs, ho⟩ := hrel
          have HS := Lib.hid hs
          have HO := Lib.hid ho
          clear hs ho
          by_cases hk : k < P
          · have hk2 : (k : Int) < (P : Int) := by omega
            have s1 := HS.out.cell hk
            rw [if_neg (Nat.lt_irrefl k)] at s1
            have z1 := HS.out.frozen k
            have o1 := only_setCell wr bs k (.bool (!b k))
            have HO2 := Lib.hid (HO.out.trans o1)
            have HS2 := Lib.hid ((HS.out.set hk (!b k)).congr (G := fun j => if j < k + 1 then !b j else b j) fun j hj => by
              by_cases e : j = k
              · rw [e, updB_at, if_pos (by omega)]
              · rw [updB_no e]
                by_cases e2 : j < k
                · rw [if_pos e2, if_pos (by omega)]
                · rw [if_neg e2, if_neg (by omega)])
            clear o1
            obtain ⟨y, hy⟩ : ∃ y, y = b k := ⟨_, rfl⟩
            rw [← hy] at s1 HO2 HS2
            clear hy
            go_wp2_with fail
            go_roundw
            case rel => exact ⟨k + 1, by omega, by go_num, HS2.out, HO2.out⟩
            case measure => simp [intOf]; omega
          · obtain rfl : k = P := by omega
            have HS := Lib.hid (HS.out.congr (G := fun j => !b j) fun j hj => by rw [if_pos hj])
            have HDW := Lib.hid (HD1.out.other HO.out (Ne.symm hbsd))
            have HBX := Lib.hid (HB1.out.trans (HO.out.below hbw))
            have HBW := Lib.hid (HB0.out.trans (HBX.out.mono HB0.out.size))
            have HFT := Lib.hid (often_any k E Dg bn bd cd bs k (fun j => !b j) D w0 wr HN.out HBW.out HDW.out HS.out hP (fun j hj => outS_le HGR.out hj) HE4.out HLG.out.can (fun j hj => (HBD.out j hj).2))
            go_wp2_with fail
            refine HFT.out.mono ?_
            rintro e1 w5 ⟨⟨t, rfl, ht⟩, rfl⟩
            have HOF : Hid (Often k E D (fun j => !b j) t) := by
              rcases ht with ⟨h1, h2⟩ | ⟨h1, h2⟩
              · obtain ⟨j, hj, hsj, hp⟩ := out_pos HGR.out (S := fun j => !b j) ha HLG.out.no hx (show (!b x) = true by rw [HXX.out]; rfl)
                have := h2 j hj hsj
                omega
              · exact ⟨h2, h1⟩
            have HDX : Hid (Vec w5 bd k fun j => wrap64 (D j)) := HDW.out.congr fun j hj => by
              have := HBD.out j hj
              unfold wrap64; omega
            clear ht HFT
            go_wp2_with fail
            refine (fire_any k E Dg bn bd cd bs k (fun j => !b j) D t w0 w5 HN.out HBW.out hbd HDX.out HS.out hP HGR.out.sym).mono ?_
            rintro e1 w6 ⟨⟨v6, rfl⟩, hv6, ho6⟩
            have HX : Hid (∃ (S : Nat → Bool) (t : Int) (x : Nat), S a = false ∧ x < k ∧ S x = true ∧ Often k E D S t ∧ Vec w6 bd k (fun j => wrap64 (fireZ k E D S t j))) := ⟨fun j => !b j, t, x, HLG.out.no, hx, show (!b x) = true by rw [HXX.out]; rfl, HOF.out, hv6⟩
            have HY : Hid (Chg (fun b => b = bd) w w6) := (Chg.below (X := fun b => b = bd) HBX.out).trans (Chg.only ho6) fun b _ h => h
            clear hv6 ho6
            go_wp2_with fail
            exact hok HX.out HY.out
        --}
      · --{DONE
        have HRD : Hid (Reduced P E D a) := HBN.out.all HPOS.out hall
        have HY : Hid (Chg (fun b => b = bd) w w3) := Chg.below HBX.out
        clear hall HC
        go_wp2_with fail
        exact hret HRD.out HDW.out HY.out
        --}
    case true =>
      go_wp2_with fail
      obtain ⟨w4, rfl⟩ : ∃ wo : World, wo = wr := ⟨_, rfl⟩
      go_loopw [18, 118] (fun y z wr => ∃ (q : Bool) (k : Nat) (c : Nat → Bool), k ≤ P ∧ z = .int .i64 (k : Int) ∧ y = .bool q ∧ Burn P E D a c ∧ VecB wr bs P c ∧ Only bs w1 wr ∧ (q = false → c = b ∧ ∀ j, j < k → c j = false → (inS P E c j : Int) ≤ D j) ∧ (q = true → cntB P b + 1 ≤ cntB P c)) (fun _ z _ => P - (intOf z).toNat)
      case atStart => exact ⟨false, 0, b, Nat.zero_le _, rfl, rfl, HBN.out, HS.out, HO.out, fun _ => ⟨rfl, fun j hj => absurd hj (Nat.not_lt_zero _)⟩, fun h => (by cases h)⟩
      case round =>
        clear HS HO HDW HBX HBW HBN HZ
        obtain ⟨q, k, c, hkP, rfl, rfl, hbn, hs, ho, hz, hm⟩ := hrel
        have HBN := Lib.hid hbn
        have HS := Lib.hid hs
        have HO := Lib.hid ho
        have HZ := Lib.hid hz
        have HM := Lib.hid hm
        clear hbn hs ho hz hm
        have HDW := Lib.hid (HD1.out.other HO.out (Ne.symm hbsd))
        have HBX := Lib.hid (HB1.out.trans (HO.out.below hbw))
        have HBW := Lib.hid (HB0.out.trans (HBX.out.mono HB0.out.size))
        by_cases hk : k < P
        · have hk2 : (k : Int) < (P : Int) := by omega
          have HPL : Hid (∀ n, n ≤ P → sumN (fun i => if c i = true then E k i else 0) n ≤ 4000) := fun n hn => Nat.le_trans (sumN_mono hn) (inS_le HGR.out hk)
          obtain ⟨be, ce, bk, n1, n2, n3, n4⟩ := net_read HN.out HBW.out
          have r1 := n2 k hk
          have HR3 := Lib.hid (n3 k hk)
          clear n2 n3 n4
          obtain ⟨bkk, hbkk⟩ : ∃ b, b = bk k := ⟨_, rfl⟩
          rw [← hbkk] at r1 HR3
          clear hbkk
          obtain ⟨w5, rfl⟩ : ∃ wo : World, wo = wr := ⟨_, rfl⟩
          go_wp2_with fail
          clear n1 r1
          go_loopw [20, 129] (fun y z wx => ∃ o : Nat, o ≤ P ∧ z = .int .i64 (o : Int) ∧ y = .int .i64 ((sumN (fun i => if c i = true then E k i else 0) o : Nat) : Int) ∧ wx = w5) (fun _ z _ => P - (intOf z).toNat)
          case atStart => exact ⟨0, Nat.zero_le _, rfl, rfl, rfl⟩
          case round =>
            obtain ⟨o, hoP, rfl, rfl, rfl⟩ := hrel
            by_cases ho : o < P
            · have ho3 : (o : Int) < (P : Int) := by omega
              have e1 := HR3.out o ho
              have s1 := HS.out.cell ho
              have HNX : Hid (sumN (fun i => if c i = true then E k i else 0) (o + 1) = sumN (fun i => if c i = true then E k i else 0) o + if c o = true then E k o else 0) := rfl
              have hp1 := HPL.out o hoP
              have he1 := HE4.out k o hk ho
              obtain ⟨so, hso⟩ : ∃ b, b = c o := ⟨_, rfl⟩
              rw [← hso] at s1 HNX
              clear hso
              generalize hm2 : sumN (fun i => if c i = true then E k i else 0) (o + 1) = m2 at *
              have HM2 := Lib.hid hm2
              clear hm2
              generalize sumN (fun i => if c i = true then E k i else 0) o = m1 at *
              generalize E k o = x2 at *
              cases so
              case false =>
                have HX2 : Hid (m2 = m1) := HNX.out
                go_wp2_with fail
                go_roundw
                case rel => exact ⟨o + 1, by omega, by go_num, by rw [HM2.out, HX2.out], by trivial⟩
                case measure => simp [intOf]; omega
              case true =>
                have HX2 : Hid (m2 = m1 + x2) := HNX.out
                have hf1 : (m1 : Int) + (x2 : Int) ≤ 9223372036854775807 := by omega
                have hf2 : (-9223372036854775808 : Int) ≤ (m1 : Int) + (x2 : Int) := by omega
                go_wp2_with fail
                go_roundw
                case rel => exact ⟨o + 1, by omega, by go_num, by rw [HM2.out, HX2.out, Int.natCast_add], by trivial⟩
                case measure => simp [intOf]; omega
            · obtain rfl : o = P := by omega
              have hg4 := HPL.out o (Nat.le_refl _)
              have d1 := HDW.out.cell hk
              have s1 := HS.out.cell hk
              have HIN : Hid (inS o E c k = sumN (fun i => if c i = true then E k i else 0) o) := rfl
              obtain ⟨g, hg⟩ : ∃ g, g = sumN (fun i => if c i = true then E k i else 0) o := ⟨_, rfl⟩
              rw [← hg] at hg4 HIN ⊢
              clear hg
              have HST : Hid (D k < (g : Int) → Burn o E D a (setB c k true)) := fun h => HBN.out.step hk (by rw [HIN.out]; exact h)
              have HCT : Hid (c k = false → cntB o (setB c k true) = cntB o c + 1) := fun h => cntB_add hk h
              have HNX : Hid ((c k = false → (g : Int) ≤ D k) → q = false → c = b ∧ ∀ j, j < k + 1 → c j = false → (inS o E c j : Int) ≤ D j) := fun h hq => ⟨(HZ.out hq).1, fun j hj hc => by
                by_cases e : j = k
                · rw [e] at hc ⊢
                  rw [HIN.out]; exact h hc
                · exact (HZ.out hq).2 j (by omega) hc⟩
              obtain ⟨dk, hdk⟩ : ∃ z, z = D k := ⟨_, rfl⟩
              rw [← hdk] at d1 HST HNX
              clear hdk
              obtain ⟨ck, hck⟩ : ∃ z, z = c k := ⟨_, rfl⟩
              rw [← hck] at s1 HCT HNX
              clear hck
              cases ck
              case true =>
                have HN2 := Lib.hid (HNX.out fun h => (by cases h))
                go_wp2_with fail
                go_roundw
                case rel => exact ⟨q, k + 1, c, by omega, by go_num, rfl, HBN.out, HS.out, HO.out, HN2.out, HM.out⟩
                case measure => simp [intOf]; omega
              case false =>
                by_cases hlt : dk < (g : Int)
                · have HB2 := Lib.hid (HST.out hlt)
                  have HC2 := Lib.hid (HCT.out (by trivial))
                  have z1 := HS.out.frozen k
                  have o1 := only_setCell wr bs k (.bool true)
                  have HO2 := Lib.hid (HO.out.trans o1)
                  have HS2 : Hid (VecB (wr.setCell ⟨bs, k, none⟩ (.bool true)) bs o (setB c k true)) := HS.out.set hk true
                  have HM2 : Hid (cntB o b + 1 ≤ cntB o (setB c k true)) := by
                    show _ ≤ _
                    rw [HC2.out]
                    cases q
                    · rw [(HZ.out (by trivial)).1]; omega
                    · have := HM.out (by trivial); omega
                  clear o1
                  go_wp2_with fail
                  go_roundw
                  case rel => exact ⟨true, k + 1, setB c k true, by omega, by go_num, rfl, HB2.out, HS2.out, HO2.out, fun h => (by cases h), fun _ => HM2.out⟩
                  case measure => simp [intOf]; omega
                · have HN2 := Lib.hid (HNX.out fun _ => by omega)
                  go_wp2_with fail
                  go_roundw
                  case rel => exact ⟨q, k + 1, c, by omega, by go_num, rfl, HBN.out, HS.out, HO.out, HN2.out, HM.out⟩
                  case measure => simp [intOf]; omega
        · obtain rfl : k = P := by omega
          go_wp2_with fail
          go_roundg (2 * (k - cntB k c) + (if q = true then 1 else 0))
          case measure =>
            have h1 := HGK.out
            have hc1 := cntB_le (P := k) (b := c)
            cases q
            · have h2 := (HZ.out rfl).1
              rw [h2, if_neg (by decide)]; rw [if_pos trivial] at h1; omega
            · have h2 := HM.out rfl
              rw [if_pos rfl]; rw [if_pos trivial] at h1; omega
          case rel => exact ⟨q, c, rfl, HBN.out, HS.out, HO.out, fun h => (HZ.out h).2, rfl⟩
end Ch
end Go.Proofs.Ytjikildiblchpaa
