/- WALK: chips.reduced: one level of places pays its debts. Printed by gens/chred.py. -/
import Derived.Test.YtjikildiblchpaaChF
import Derived.Test.YtjikildiblchpaaChG
import Derived.Test.YtjikildiblchpaaChO
import Derived.Test.YtjikildiblchpaaRtN
namespace Go.Proofs.Ytjikildiblchpaa
set_option linter.unusedSimpArgs false
set_option linter.unusedVariables false
open Go.RowKit Go.Lib
namespace Ch
open Tld Mem Rt

set_option maxHeartbeats 8000000 in
set_option maxRecDepth 1000000 in
theorem red1 (P r : Nat) (E : Nat → Nat → Nat) (Dg far : Nat → Nat) (D : Nat → Int) (bn bd cd bf cf a : Nat) (w0 w : World) (hG : Gr P E) (hF : FarOk P E a far) (hr : 0 < r) (hr9 : r ≤ 10) (hfp : ∀ k, k < P → far k < P)
    (HN : Hid (Net w0 bn P E Dg)) (HB0 : Hid (Below w0.heap.size w0 w)) (hbd : w0.heap.size ≤ bd) (hne : bf ≠ bd) (HD : Hid (Vec w bd P D)) (HV : Hid (Vec w bf P fun k => (far k : Int))) (hb : ∀ k, k < P → -3000000000000000000 ≤ D k ∧ D k ≤ 3000000000000001100)
    (c2 c3 c4 c5 c6 c8 c10 c11 c12 c13 c14 c15 c16 c17 c18 c19 c20 c21 c22 c23 c24 c25 c26 c27 c28 c29 c30 c31 c32 c33 c34 c35 c36 c37 c38 c39 c40 c41 c42 c43 c44 c45 c46 c47 c48 c49 c50 c51 c52 c53 c54 c55 c56 c57 c58 c59 c60 c61 c62 c63 c64 c65 c66 c67 c68 c69 c70 c71 c72 c73 c74 c75 c76 c77 c78 c79 c80 c81 c82 c83 c84 c85 c86 c87 c88 c89 c90 c91 c92 c93 c94 c95 c96 c97 c98 c99 c100 c101 c102 c103 c104 c105 c106 c107 c108 c109 c110 c111 c112 c113 c114 c115 c116 c117 c118 c119 c120 c121 c122 c123 c124 c125 c126 c127 c128 c129 c130 c131 c132 c133 c134 c135 c136 c137 c138 c139 c140 c141 c142 c143 c144 c145 c146 c147 c148 c149 c150 c151 c152 c153 c154 c155 c156 c157 c158 c159 c160 c161 c162 c163 c164 c165 c166 c167 c168 c169 c170 c171 c172 c173 c174 c175 c176 c177 c178 c179 c180 c181 c182 c183 c184 : Value) (Q : Exit → Act → World → Prop)
    (hok : ∀ {u10 u11 u12 u13 u14 u15 u16 u36 u37 u38 u39 u40 u41 u42 u43 u44 u45 u46 u47 u48 u49 u50 u51 u52 u53 u54 u55 u56 u57 u58 u59 u60 u61 u62 u63 u64 u65 u66 u67 u68 u69 u70 u71 u72 u73 u74 u75 u76 u77 u78 u79 u80 u81 u82 u83 u84 u85 u86 u87 u88 u89 u90 u91 u92 u93 u94 u95 u96 u97 u98 u99 u100 u101 u102 u103 u104 u105 u106 u107 u108 : Value} {w' : World}, (∃ t, Times P E far D r t ∧ Vec w' bd P (fun k => wrap64 (fireZ P E D (fun j => decide (far j < r)) t k))) → Chg (fun b => b = bd) w w' → Q .normal ⟨#[.pointer (some ⟨bn, 0, none⟩), .slice (some ⟨bd, 0, none⟩) P cd, c2, c3, c4, c5, c6, .slice (some ⟨bf, 0, none⟩) P cf, c8, .int .i64 (r : Int), u10, u11, u12, u13, u14, u15, u16, c17, c18, c19, c20, c21, c22, c23, c24, c25, c26, c27, c28, c29, c30, c31, c32, c33, c34, c35, u36, u37, u38, u39, u40, u41, u42, u43, u44, u45, u46, u47, u48, u49, u50, u51, u52, u53, u54, u55, u56, u57, u58, u59, u60, u61, u62, u63, u64, u65, u66, u67, u68, u69, u70, u71, u72, u73, u74, u75, u76, u77, u78, u79, u80, u81, u82, u83, u84, u85, u86, u87, u88, u89, u90, u91, u92, u93, u94, u95, u96, u97, u98, u99, u100, u101, u102, u103, u104, u105, u106, u107, u108, c109, c110, c111, c112, c113, c114, c115, c116, c117, c118, c119, c120, c121, c122, c123, c124, c125, c126, c127, c128, c129, c130, c131, c132, c133, c134, c135, c136, c137, c138, c139, c140, c141, c142, c143, c144, c145, c146, c147, c148, c149, c150, c151, c152, c153, c154, c155, c156, c157, c158, c159, c160, c161, c162, c163, c164, c165, c166, c167, c168, c169, c170, c171, c172, c173, c174, c175, c176, c177, c178, c179, c180, c181, c182, c183, c184], []⟩ w')
    : Code.wp Try.prog ((Pc.frm 7 (Try.f23.body.getD .skip)).getD .skip) Q ⟨#[.pointer (some ⟨bn, 0, none⟩), .slice (some ⟨bd, 0, none⟩) P cd, c2, c3, c4, c5, c6, .slice (some ⟨bf, 0, none⟩) P cf, c8, .int .i64 (r : Int), c10, c11, c12, c13, c14, c15, c16, c17, c18, c19, c20, c21, c22, c23, c24, c25, c26, c27, c28, c29, c30, c31, c32, c33, c34, c35, c36, c37, c38, c39, c40, c41, c42, c43, c44, c45, c46, c47, c48, c49, c50, c51, c52, c53, c54, c55, c56, c57, c58, c59, c60, c61, c62, c63, c64, c65, c66, c67, c68, c69, c70, c71, c72, c73, c74, c75, c76, c77, c78, c79, c80, c81, c82, c83, c84, c85, c86, c87, c88, c89, c90, c91, c92, c93, c94, c95, c96, c97, c98, c99, c100, c101, c102, c103, c104, c105, c106, c107, c108, c109, c110, c111, c112, c113, c114, c115, c116, c117, c118, c119, c120, c121, c122, c123, c124, c125, c126, c127, c128, c129, c130, c131, c132, c133, c134, c135, c136, c137, c138, c139, c140, c141, c142, c143, c144, c145, c146, c147, c148, c149, c150, c151, c152, c153, c154, c155, c156, c157, c158, c159, c160, c161, c162, c163, c164, c165, c166, c167, c168, c169, c170, c171, c172, c173, c174, c175, c176, c177, c178, c179, c180, c181, c182, c183, c184], []⟩ w := by
  conv => arg 2; whnf
  have hP := hG.p10
  have HGR := Lib.hid hG
  have HGP : Hid (∀ k, k < P → far k = r → 0 < inS P E (fun j => decide (far j < r)) k) := fun k hk h => get_pos hF hk h hr
  have HB := Lib.hid hb
  have HFP := Lib.hid hfp
  have HE4 : Hid (∀ k o, k < P → o < P → E k o ≤ 4000) := fun k o hk ho => Nat.le_trans (sumN_one (F := fun o => E k o) ho) (hG.few k hk)
  have hmk := mk_bools P hP
  clear hb hG hF hfp
  go_upto_region 8 with fail
  have HS0 := Lib.hid (vecB_made w P)
  have hal : Below w.heap.size w (w.alloc (.cells (Array.replicate P (Value.bool false)) 4)) := (Below.refl _ _).alloc (Nat.le_refl _) _
  have HD1 := Lib.hid (HD.out.keep hal HD.out.lt)
  have HV1 := Lib.hid (HV.out.keep hal HV.out.lt)
  have HB1 := Lib.hid hal
  have hbs : w.heap.size ≤ w.heap.size := Nat.le_refl _
  obtain ⟨bs, hbse⟩ : ∃ b, b = w.heap.size := ⟨_, rfl⟩
  rw [← hbse] at HS0
  rw [← hbse]
  have hbsd : bs ≠ bd := by have := HD.out.lt; omega
  have hbsf : bs ≠ bf := by have := HV.out.lt; omega
  have hbw : w.heap.size ≤ bs := by omega
  clear hal hmk hbs hbse
  generalize w.alloc (.cells (Array.replicate P (Value.bool false)) 4) = w1 at *
  go_wp2_with fail
  go_loopw [41] (fun z wr => ∃ k : Nat, k ≤ P ∧ z = .int .i64 (k : Int) ∧ VecB wr bs P (fun j => if j < k then decide (far j < r) else false) ∧ Only bs w1 wr) (fun z _ => P - (intOf z).toNat)
  case atStart => exact ⟨0, Nat.zero_le _, rfl, HS0.out.congr fun j hj => by rw [if_neg (Nat.not_lt_zero _)], Only.refl _ _⟩
  case round =>
    clear HS0
    obtain ⟨k, hkP, rfl, hs, ho⟩ := hrel
    have HS := Lib.hid hs
    have HO := Lib.hid ho
    clear hs ho
    by_cases hk : k < P
    · have hk2 : (k : Int) < (P : Int) := by omega
      have f1 := (HV1.out.other HO.out hbsf.symm).cell hk
      have s1 := HS.out.frozen k
      have s2 := HS.out.cell hk
      have o1 := only_setCell wr bs k (.bool (decide (far k < r)))
      have HO2 := Lib.hid (HO.out.trans o1)
      have HS2 := Lib.hid ((HS.out.set hk (decide (far k < r))).congr (G := fun j => if j < k + 1 then decide (far j < r) else false) fun j hj => by
        by_cases e : j = k
        · rw [e, updB_at, if_pos (by omega)]
        · rw [updB_no e]
          by_cases e2 : j < k
          · rw [if_pos e2, if_pos (by omega)]
          · rw [if_neg e2, if_neg (by omega)])
      clear o1
      obtain ⟨x, hx⟩ : ∃ x, x = far k := ⟨_, rfl⟩
      rw [← hx] at f1 HO2 HS2
      clear hx
      have q1 : decide ((x : Int) < (r : Int)) = decide (x < r) := by
        by_cases h : x < r
        · rw [decide_eq_true h, decide_eq_true (by omega)]
        · rw [decide_eq_false h, decide_eq_false (by omega)]
      by_cases hxr : x < r
      · have hxr2 : (x : Int) < (r : Int) := by omega
        rw [decide_eq_true hxr] at HO2 HS2
        go_wp2_with fail
        go_roundw
        case rel => exact ⟨k + 1, by omega, by go_num, HS2.out, HO2.out⟩
        case measure => simp [intOf]; omega
      · have hxr2 : ¬ (x : Int) < (r : Int) := by omega
        rw [decide_eq_false hxr] at HO2 HS2
        go_wp2_with fail
        go_roundw
        case rel => exact ⟨k + 1, by omega, by go_num, HS2.out, HO2.out⟩
        case measure => simp [intOf]; omega
    · obtain rfl : k = P := by omega
      have HS := Lib.hid (HS.out.congr (G := fun j => decide (far j < r)) fun j hj => by rw [if_pos hj])
      have HD2 := Lib.hid (HD1.out.other HO.out (Ne.symm hbsd))
      have HV2 := Lib.hid (HV1.out.other HO.out hbsf.symm)
      have HB2 := Lib.hid (HB1.out.trans (HO.out.below hbw))
      have HBW := Lib.hid (HB0.out.trans (HB2.out.mono HB0.out.size))
      clear HD1 HV1 HB1 HO
      obtain ⟨P, rfl⟩ : ∃ p, p = k := ⟨_, rfl⟩
      obtain ⟨w2, rfl⟩ : ∃ wo : World, wo = wr := ⟨_, rfl⟩
      go_wp2_with fail
      go_loopw [12, 56] (fun y z wr => ∃ (k : Nat) (t : Int), k ≤ P ∧ y = .int .i64 t ∧ z = .int .i64 (k : Int) ∧ TimesI P E far D r k t ∧ t ≤ 4000000000000000000 ∧ wr = w2) (fun _ z _ => P - (intOf z).toNat)
      case atStart => exact ⟨0, 0, Nat.zero_le _, rfl, rfl, .start, by omega, rfl⟩
      case round =>
        obtain ⟨k, t, hkP, rfl, rfl, ht, ht4, rfl⟩ := hrel
        have HT := Lib.hid ht
        have ht0 := ht.pos
        clear ht
        by_cases hk : k < P
        · have hk2 : (k : Int) < (P : Int) := by omega
          have f1 := HV2.out.cell hk
          have HSK : Hid ((far k = r → 0 ≤ D k) → TimesI P E far D r (k + 1) t) := fun h => HT.out.skip h
          obtain ⟨x, hx⟩ : ∃ x, x = far k := ⟨_, rfl⟩
          have HX := Lib.hid hx
          rw [← hx] at f1 HSK
          clear hx
          by_cases hxr : x = r
          · have b1 : ((x : Int) != (r : Int)) = false := by rw [hxr]; exact bne_self_eq_false _
            have HFK : Hid (far k = r) := HX.out.symm.trans hxr
            have HG0 := Lib.hid (HGP.out k hk HFK.out)
            obtain ⟨be, ce, bk, n1, n2, n3, n4⟩ := net_read HN.out HBW.out
            have r1 := n2 k hk
            have HR3 := Lib.hid (n3 k hk)
            clear n2 n3 n4
            obtain ⟨bkk, hbkk⟩ : ∃ b, b = bk k := ⟨_, rfl⟩
            rw [← hbkk] at r1 HR3
            clear hbkk
            have HPL : Hid (∀ n, n ≤ P → sumN (fun i => if decide (far i < r) = true then E k i else 0) n ≤ 4000) := fun n hn => Nat.le_trans (sumN_mono hn) (inS_le HGR.out hk)
            clear hxr
            obtain ⟨w3, rfl⟩ : ∃ wo : World, wo = wr := ⟨_, rfl⟩
            go_wp2_with fail
            clear f1 n1 r1
            go_loopw [14, 73] (fun y z wx => ∃ o : Nat, o ≤ P ∧ z = .int .i64 (o : Int) ∧ y = .int .i64 ((sumN (fun i => if decide (far i < r) = true then E k i else 0) o : Nat) : Int) ∧ wx = w3) (fun _ z _ => P - (intOf z).toNat)
            case atStart => exact ⟨0, Nat.zero_le _, rfl, rfl, rfl⟩
            case round =>
              obtain ⟨o, hoP, rfl, rfl, rfl⟩ := hrel
              by_cases ho : o < P
              · have ho3 : (o : Int) < (P : Int) := by omega
                have e1 := HR3.out o ho
                have s1 := HS.out.cell ho
                have HNX : Hid (sumN (fun i => if decide (far i < r) = true then E k i else 0) (o + 1) = sumN (fun i => if decide (far i < r) = true then E k i else 0) o + if decide (far o < r) = true then E k o else 0) := rfl
                have hp1 := HPL.out o hoP
                have he1 := HE4.out k o hk ho
                obtain ⟨so, hso⟩ : ∃ b, b = decide (far o < r) := ⟨_, rfl⟩
                rw [← hso] at s1 HNX
                clear hso
                generalize hm2 : sumN (fun i => if decide (far i < r) = true then E k i else 0) (o + 1) = m2 at *
                have HM2 := Lib.hid hm2
                clear hm2
                generalize sumN (fun i => if decide (far i < r) = true then E k i else 0) o = m1 at *
                generalize E k o = x2 at *
                cases so
                case false =>
                  have HX2 : Hid (m2 = m1) := HNX.out
                  go_wp2_with fail
                  go_roundw
                  case rel => exact ⟨o + 1, by omega, by go_num, by rw [HM2.out, HX2.out], by trivial⟩
                  case measure => simp [intOf]; omega
                case true =>
                  have HX2 : Hid (m2 = m1 + x2) := HNX.out
                  have hf1 : (m1 : Int) + (x2 : Int) ≤ 9223372036854775807 := by omega
                  have hf2 : (-9223372036854775808 : Int) ≤ (m1 : Int) + (x2 : Int) := by omega
                  go_wp2_with fail
                  go_roundw
                  case rel => exact ⟨o + 1, by omega, by go_num, by rw [HM2.out, HX2.out, Int.natCast_add], by trivial⟩
                  case measure => simp [intOf]; omega
              · obtain rfl : o = P := by omega
                have hg4 := HPL.out o (Nat.le_refl _)
                have d1 := HD2.out.cell hk
                obtain ⟨hb1, hb2⟩ := HB.out k hk
                have HIN : Hid (inS o E (fun j => decide (far j < r)) k = sumN (fun i => if decide (far i < r) = true then E k i else 0) o) := rfl
                obtain ⟨g, hg⟩ : ∃ g, g = sumN (fun i => if decide (far i < r) = true then E k i else 0) o := ⟨_, rfl⟩
                rw [← hg] at hg4 HIN ⊢
                clear hg
                have hg0 : 0 < g := by have := HG0.out; rw [HIN.out] at this; exact this
                obtain ⟨dk, hdk⟩ : ∃ z, z = D k := ⟨_, rfl⟩
                have HDK := Lib.hid hdk
                rw [← hdk] at d1 hb1 hb2 HSK
                clear hdk
                by_cases hneg : dk < 0
                · obtain ⟨y, hy⟩ : ∃ y : Nat, dk = -(y : Int) := ⟨(-dk).toNat, by omega⟩
                  subst hy
                  have hy0 : 0 < y := by omega
                  obtain ⟨hm1, hm2⟩ := HT.out.more HFK.out HDK.out.symm hy0 HIN.out hg0
                  have HM1 := Lib.hid hm1
                  have HM2 := Lib.hid hm2
                  have hq1 : (-(-(y : Int)) + (g : Int) - 1).tdiv (g : Int) = (((y + g - 1) / g : Nat) : Int) := by
                    rw [show -(-(y : Int)) + (g : Int) - 1 = ((y + g - 1 : Nat) : Int) from by omega]
                    exact Int.ofNat_tdiv _ _
                  have hq2 : ((y : Int) + (g : Int) - 1).tdiv (g : Int) = (((y + g - 1) / g : Nat) : Int) := by
                    rw [show (y : Int) + (g : Int) - 1 = ((y + g - 1 : Nat) : Int) from by omega]
                    exact Int.ofNat_tdiv _ _
                  have hql : (y + g - 1) / g ≤ y + g - 1 := Nat.div_le_self _ _
                  have g1 : ((g : Int) == 0) = false := by rw [beq_eq_false_iff_ne]; omega
                  have g2 : ¬ g = 0 := by omega
                  clear hm1 hm2
                  generalize (y + g - 1) / g = q at *
                  by_cases hlt : t ≤ (q : Int)
                  · have HT2 := Lib.hid (HM1.out hlt)
                    have e1 : max t (q : Int) = (q : Int) := by omega
                    go_wp2_with fail
                    go_roundw
                    case rel => exact ⟨k + 1, (q : Int), by omega, by first | rfl | (congr 1; omega), by go_num, HT2.out, by omega, by trivial⟩
                    case measure => simp [intOf]; omega
                  · have HT2 := Lib.hid (HM2.out (by omega))
                    have e1 : max t (q : Int) = t := by omega
                    go_wp2_with fail
                    go_roundw
                    case rel => exact ⟨k + 1, t, by omega, by first | rfl | (congr 1; omega), by go_num, HT2.out, by omega, by trivial⟩
                    case measure => simp [intOf]; omega
                · have HT2 := Lib.hid (HSK.out fun _ => by omega)
                  go_wp2_with fail
                  go_roundw
                  case rel => exact ⟨k + 1, t, by omega, rfl, by go_num, HT2.out, ht4, by trivial⟩
                  case measure => simp [intOf]; omega
          · have b1 : ((x : Int) != (r : Int)) = true := by rw [bne_iff_ne]; omega
            have HT2 := Lib.hid (HSK.out fun h => absurd h hxr)
            clear hxr
            go_wp2_with fail
            go_roundw
            case rel => exact ⟨k + 1, t, by omega, rfl, by go_num, HT2.out, ht4, by trivial⟩
            case measure => simp [intOf]; omega
        · obtain rfl : k = P := by omega
          have HDW : Hid (Vec wr bd k fun j => wrap64 (D j)) := HD2.out.congr fun j hj => by
            have := HB.out j hj
            unfold wrap64; omega
          go_wp2_with fail
          refine (fire_any k E Dg bn bd cd bs k (fun j => decide (far j < r)) D t w0 wr HN.out HBW.out hbd HDW.out HS.out hP HGR.out.sym).mono ?_
          rintro e1 w4 ⟨⟨v4, rfl⟩, hv4, ho4⟩
          have HX : Hid (∃ t, Times k E far D r t ∧ Vec w4 bd k (fun j => wrap64 (fireZ k E D (fun j => decide (far j < r)) t j))) := ⟨t, HT.out.fin, hv4⟩
          have HY : Hid (Chg (fun b => b = bd) w w4) := (Chg.below (X := fun b => b = bd) HB2.out).trans (Chg.only ho4) fun b _ h => h
          clear hv4 ho4
          go_wp2_with fail
          exact hok HX.out HY.out
end Ch
end Go.Proofs.Ytjikildiblchpaa
