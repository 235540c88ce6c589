/- THE LAW BlocksRun, its second half: what undoes a table, what it keeps, how it is turned. -/
import Derived.Test.YtmnefdcgknmnjaaDoorBlE
import Derived.Test.YtmnefdcgknmnjaaDoorBlN
import Derived.Test.YtmnefdcgknmnjaaDoorBlQ
import Derived.Test.YtmnefdcgknmnjaaDoorBlB
import Derived.Test.YtmnefdcgknmnjaaDoorBlT
import Derived.Test.YtmnefdcgknmnjaaDoorSame
import Derived.Test.YtmnefdcgknmnjaaDoorPc
import Derived.Deep.RegionHeld3
namespace Go.Proofs.YtmnefdcgknmnjaaDoor
set_option linter.unusedSimpArgs false
set_option linter.unusedVariables false
open Go.RowKit Go.Lib
namespace Bl
open Tld Mem

theorem below_laid {w w' : World} (h : Laid w) (hb : Below w.heap.size w w') : Laid w' := h.below hb h.lt
/-- What the reference makes of numbers that stand twice. -/
noncomputable def onceN (tz : List Int) (i : Nat) : Int := @ite _ (Once tz i) (Classical.propDecidable _) 0 5
theorem onceN_zero (tz : List Int) : onceN tz 0 = 0 := by
  unfold onceN
  exact @if_pos _ (Classical.propDecidable _) (show Once tz 0 from fun p q _ h => absurd h (Nat.not_lt_zero _)) _ _ _
theorem once_next {tz : List Int} {i : Nat} : Once tz (i + 1) ↔ Once tz i ∧ ¬ (mask tz i).testBit (tN tz i) = true := by
  constructor
  · intro h
    refine ⟨fun p q h1 h2 => h p q h1 (by omega), fun hs => ?_⟩
    obtain ⟨j, hj, e⟩ := (mask_bit i).1 hs
    exact h j i hj (by omega) e
  · rintro ⟨h, hs⟩ p q hpq hq
    by_cases hqi : q = i
    · subst hqi
      exact fun e => hs ((mask_bit q).2 ⟨p, hpq, e⟩)
    · exact h p q hpq (by omega)
theorem onceN_yes {tz : List Int} {i : Nat} (h : Once tz i) : onceN tz i = 0 := by unfold onceN; exact @if_pos _ (Classical.propDecidable _) h _ _ _
theorem onceN_no {tz : List Int} {i : Nat} (h : ¬ Once tz i) : onceN tz i = 5 := by unfold onceN; exact @if_neg _ (Classical.propDecidable _) h _ _ _
theorem onceN_hit {tz : List Int} {i : Nat} (h : (mask tz i).testBit (tN tz i) = true) : onceN tz (i + 1) = 5 := onceN_no fun h2 => (once_next.1 h2).2 h
theorem onceN_miss {tz : List Int} {i : Nat} (h : (mask tz i).testBit (tN tz i) = false) : onceN tz (i + 1) = onceN tz i := by
  classical
  have h2 : ¬ (mask tz i).testBit (tN tz i) = true := by rw [h]; simp
  by_cases ho : Once tz i
  · rw [onceN_yes ho, onceN_yes (once_next.2 ⟨ho, h2⟩)]
  · rw [onceN_no ho, onceN_no fun h3 => ho (once_next.1 h3).1]
/-- Which numbers have been. -/
def seenL (tz : List Int) (i : Nat) : List Value := (List.range 16).map fun x => .bool ((mask tz i).testBit x)
theorem seenL_zero (tz : List Int) : seenL tz 0 = List.replicate 16 (.bool false) := by
  apply List.ext_getElem (by simp [seenL])
  intro i h1 h2
  rw [List.getElem_replicate]
  simp only [seenL, List.getElem_map, mask, Nat.zero_testBit]
theorem seenL_get {tz : List Int} {i x : Nat} (hx : x < 16) : (seenL tz i)[x]? = some (.bool ((mask tz i).testBit x)) := by
  unfold seenL
  rw [List.getElem?_map, List.getElem?_range hx]; rfl
theorem seenL_next {tz : List Int} {i : Nat} (ht : tN tz i < 16) : (seenL tz i).set (tN tz i) (.bool true) = seenL tz (i + 1) := by
  apply List.ext_getElem?
  intro x
  by_cases hx : x < 16
  · rw [seenL_get hx]
    have hm : (mask tz (i + 1)).testBit x = ((mask tz i).testBit x || decide (tN tz i = x)) := by
      show (mask tz i ||| 2 ^ tN tz i).testBit x = _
      rw [Nat.testBit_or, Nat.testBit_two_pow]
    rw [hm]
    by_cases hk : tN tz i = x
    · subst hk
      rw [List.getElem?_set_self (by simp [seenL]; exact ht)]
      simp
    · rw [List.getElem?_set_ne hk, seenL_get hx]
      simp [hk]
  · rw [List.getElem?_eq_none (by simp [seenL]; omega), List.getElem?_eq_none (by simp [seenL]; omega)]
theorem infoBool : (Tryd.prog.info? 4).map (fun i => (i.zero, i.size, i.bytes)) = some (some (.bool false), 1, 1) := by kernel_rfl
theorem ints_nil (w : World) : Calls Tryd.prog 12 #[.slice none 0 0, .slice none 0 0] w fun e w' => e = .returned (.bool true) ∧ Below w.heap.size w w' := by
  refine (Ints.ints_any none none 0 0 0 0 [] [] w (Ints.Is.nil w) (Ints.Is.nil w)).mono ?_
  rintro e w' ⟨rfl, hb⟩
  exact ⟨rfl, hb⟩
theorem ints_self (a b : Option Addr) (n c d : Nat) (zs : List Int) (w : World) (h1 : Ints.Is w a n zs) (h2 : Ints.Is w b n zs) : Calls Tryd.prog 12 #[.slice a n c, .slice b n d] w fun e w' => e = .returned (.bool true) ∧ Below w.heap.size w w' := by
  refine (Ints.ints_any a b n n c d zs zs w h1 h2).mono ?_
  rintro e w' ⟨rfl, hb⟩
  exact ⟨by simp, hb⟩
set_option maxHeartbeats 8000000 in
set_option maxRecDepth 1000000 in
theorem tail_fault (ta : Option Addr) (tn tc : Nat) (tz : List Int) (t : Int) (w : World) (hT : Ints.Is w ta tn tz) (hf : tfault tz = t) (ht : t ≠ 0) (hL : Laid w)
    (c1 c2 c3 c4 c5 c6 c7 c8 c10 c11 c12 c13 c14 c15 c16 c17 c18 c19 c20 c21 c22 c23 c24 c25 c26 c27 c28 c29 c30 c31 c32 c33 c34 c35 c36 c37 c38 c39 c40 c41 c42 c43 c44 c45 c46 c47 c48 c49 c50 c51 c52 c53 c54 c55 c56 c57 c58 c59 c60 c61 c62 c63 c64 c65 c66 c67 c68 c69 c70 c71 c72 c73 c74 c75 c76 c77 c78 c79 c80 c81 c82 c83 c84 c85 c86 c87 c88 c89 c90 c91 c92 c93 c94 c95 c96 c97 c98 c99 c100 c101 c102 c103 c104 c105 c106 c107 c108 c109 c110 c111 c112 c113 c114 c115 c116 c117 c118 c119 c120 c121 c122 c123 c124 c125 c126 c127 c128 c129 c130 c131 c132 c133 c134 c135 c136 c137 c138 c139 c140 c141 c142 c143 c144 c145 c146 c147 c148 c149 c150 c151 c152 c153 c154 c155 c156 c157 c158 c159 c160 c161 c162 c163 c164 c165 c166 c167 c168 c169 c170 c171 c172 c173 c174 c175 c176 c177 c178 c179 c180 c181 c182 c183 c184 c185 c186 c187 c188 c189 c190 c191 c192 c193 : Value) (Q : Exit → Act → World → Prop)
    (hret : ∀ {u10 u11 u12 u14 u16 u17 u18 u19 u20 u21 u22 u23 u24 u25 u102 u103 u104 u105 u106 u107 u108 u109 u110 u111 u112 u113 u114 u115 u116 u117 u118 u119 u120 u121 u122 u123 u124 u125 u126 u127 u128 u129 u130 u131 u132 u133 u134 u135 u136 u137 u138 u139 u140 u141 u142 u143 u144 u145 u146 u147 u148 u149 u150 u151 u152 u153 u154 u155 u156 u157 u158 u159 u160 u161 u162 u163 u164 u165 u166 u167 u168 u169 u170 u171 u172 u173 u174 u175 u176 u177 u178 u179 u180 u181 u182 u183 u184 u185 u186 u187 u188 u189 u190 u191 u192 u193 : Value} {w' : World}, Below w.heap.size w w' → Q .ret ⟨#[.slice ta tn tc, c1, c2, c3, c4, c5, c6, c7, .bool true, .int .i64 t, u10, u11, u12, c13, u14, c15, u16, u17, u18, u19, u20, u21, u22, u23, u24, u25, c26, c27, c28, c29, c30, c31, c32, c33, c34, c35, c36, c37, c38, c39, c40, c41, c42, c43, c44, c45, c46, c47, c48, c49, c50, c51, c52, c53, c54, c55, c56, c57, c58, c59, c60, c61, c62, c63, c64, c65, c66, c67, c68, c69, c70, c71, c72, c73, c74, c75, c76, c77, c78, c79, c80, c81, c82, c83, c84, c85, c86, c87, c88, c89, c90, c91, c92, c93, c94, c95, c96, c97, c98, c99, c100, c101, u102, u103, u104, u105, u106, u107, u108, u109, u110, u111, u112, u113, u114, u115, u116, u117, u118, u119, u120, u121, u122, u123, u124, u125, u126, u127, u128, u129, u130, u131, u132, u133, u134, u135, u136, u137, u138, u139, u140, u141, u142, u143, u144, u145, u146, u147, u148, u149, u150, u151, u152, u153, u154, u155, u156, u157, u158, u159, u160, u161, u162, u163, u164, u165, u166, u167, u168, u169, u170, u171, u172, u173, u174, u175, u176, u177, u178, u179, u180, u181, u182, u183, u184, u185, u186, u187, u188, u189, u190, u191, u192, u193], []⟩ w')
    : Code.wp Tryd.prog ((Pc.frm 19 (Tryd.f3.body.getD .skip)).getD .skip) Q ⟨#[.slice ta tn tc, c1, c2, c3, c4, c5, c6, c7, c8, .int .i64 t, c10, c11, c12, c13, c14, c15, c16, c17, c18, c19, c20, c21, c22, c23, c24, c25, c26, c27, c28, c29, c30, c31, c32, c33, c34, c35, c36, c37, c38, c39, c40, c41, c42, c43, c44, c45, c46, c47, c48, c49, c50, c51, c52, c53, c54, c55, c56, c57, c58, c59, c60, c61, c62, c63, c64, c65, c66, c67, c68, c69, c70, c71, c72, c73, c74, c75, c76, c77, c78, c79, c80, c81, c82, c83, c84, c85, c86, c87, c88, c89, c90, c91, c92, c93, c94, c95, c96, c97, c98, c99, c100, c101, c102, c103, c104, c105, c106, c107, c108, c109, c110, c111, c112, c113, c114, c115, c116, c117, c118, c119, c120, c121, c122, c123, c124, c125, c126, c127, c128, c129, c130, c131, c132, c133, c134, c135, c136, c137, c138, c139, c140, c141, c142, c143, c144, c145, c146, c147, c148, c149, c150, c151, c152, c153, c154, c155, c156, c157, c158, c159, c160, c161, c162, c163, c164, c165, c166, c167, c168, c169, c170, c171, c172, c173, c174, c175, c176, c177, c178, c179, c180, c181, c182, c183, c184, c185, c186, c187, c188, c189, c190, c191, c192, c193], []⟩ w := by
  conv => arg 2; whnf
  have hbd := tfault_bd tz
  rw [hf] at hbd
  have HBK := Lib.hid (back_fault ta tn tc tz w hT (by rw [hf]; exact ht))
  have HKP := Lib.hid (fun (w2 : World) (h2 : Below w.heap.size w w2) => keeps_fault ta tn tc tz w2 (hT.keep h2) (by rw [hf]; exact ht))
  have HTU := Lib.hid (fun (w2 : World) (h2 : Below w.heap.size w w2) => turns_fault ta tn tc tz w2 (hT.keep h2) (by rw [hf]; exact ht))
  rw [hf, errV_some ht] at HBK HKP HTU
  have HSM := Lib.hid (fun (w2 : World) (h2 : Below w.heap.size w w2) => same_iface t w2 (below_laid hL h2) hbd ht)
  have ht0 : (t == 0) = false := by rw [beq_eq_false_iff_ne]; exact ht
  have ht1 : (t != 0) = true := by rw [bne_iff_ne]; exact ht
  have HB := Lib.hid (Below.refl w.heap.size w)
  clear hT hf hL hbd
  go_wp2_with fail
  refine (HBK.out).mono ?_
  rintro e0 w1 ⟨rfl, hb0⟩
  have HB := Lib.hid (HB.out.trans (hb0.mono HB.out.size))
  clear hb0
  go_wp2_with fail
  refine (HSM.out _ HB.out).mono ?_
  rintro e0 w2 ⟨rfl, hb0⟩
  have HB := Lib.hid (HB.out.trans (hb0.mono HB.out.size))
  clear hb0
  go_wp2_with fail
  refine (ints_nil _).mono ?_
  rintro e0 w3 ⟨rfl, hb0⟩
  have HB := Lib.hid (HB.out.trans (hb0.mono HB.out.size))
  clear hb0
  go_wp2_with fail
  refine (HKP.out _ HB.out).mono ?_
  rintro e0 w4 ⟨rfl, hb0⟩
  have HB := Lib.hid (HB.out.trans (hb0.mono HB.out.size))
  clear hb0
  go_wp2_with fail
  refine (HSM.out _ HB.out).mono ?_
  rintro e0 w5 ⟨rfl, hb0⟩
  have HB := Lib.hid (HB.out.trans (hb0.mono HB.out.size))
  clear hb0
  go_wp2_with fail
  refine (HTU.out _ HB.out).mono ?_
  rintro e0 w6 ⟨rfl, hb0⟩
  have HB := Lib.hid (HB.out.trans (hb0.mono HB.out.size))
  clear hb0
  go_wp2_with fail
  refine (HSM.out _ HB.out).mono ?_
  rintro e0 w7 ⟨rfl, hb0⟩
  have HB := Lib.hid (HB.out.trans (hb0.mono HB.out.size))
  clear hb0
  go_wp2_with fail
  exact HB.out
set_option maxHeartbeats 16000000 in
set_option maxRecDepth 1000000 in
theorem tail_ok (ta : Option Addr) (tn tc : Nat) (tz : List Int) (w : World) (hT : Ints.Is w ta tn tz) (hf : tfault tz = 0) (hL : Laid w)
    (c1 c2 c3 c4 c5 c6 c7 c8 c10 c11 c12 c13 c14 c15 c16 c17 c18 c19 c20 c21 c22 c23 c24 c25 c26 c27 c28 c29 c30 c31 c32 c33 c34 c35 c36 c37 c38 c39 c40 c41 c42 c43 c44 c45 c46 c47 c48 c49 c50 c51 c52 c53 c54 c55 c56 c57 c58 c59 c60 c61 c62 c63 c64 c65 c66 c67 c68 c69 c70 c71 c72 c73 c74 c75 c76 c77 c78 c79 c80 c81 c82 c83 c84 c85 c86 c87 c88 c89 c90 c91 c92 c93 c94 c95 c96 c97 c98 c99 c100 c101 c102 c103 c104 c105 c106 c107 c108 c109 c110 c111 c112 c113 c114 c115 c116 c117 c118 c119 c120 c121 c122 c123 c124 c125 c126 c127 c128 c129 c130 c131 c132 c133 c134 c135 c136 c137 c138 c139 c140 c141 c142 c143 c144 c145 c146 c147 c148 c149 c150 c151 c152 c153 c154 c155 c156 c157 c158 c159 c160 c161 c162 c163 c164 c165 c166 c167 c168 c169 c170 c171 c172 c173 c174 c175 c176 c177 c178 c179 c180 c181 c182 c183 c184 c185 c186 c187 c188 c189 c190 c191 c192 c193 : Value) (Q : Exit → Act → World → Prop)
    (hret : ∀ {u10 u11 u12 u14 u16 u17 u18 u19 u20 u21 u22 u23 u24 u25 u102 u103 u104 u105 u106 u107 u108 u109 u110 u111 u112 u113 u114 u115 u116 u117 u118 u119 u120 u121 u122 u123 u124 u125 u126 u127 u128 u129 u130 u131 u132 u133 u134 u135 u136 u137 u138 u139 u140 u141 u142 u143 u144 u145 u146 u147 u148 u149 u150 u151 u152 u153 u154 u155 u156 u157 u158 u159 u160 u161 u162 u163 u164 u165 u166 u167 u168 u169 u170 u171 u172 u173 u174 u175 u176 u177 u178 u179 u180 u181 u182 u183 u184 u185 u186 u187 u188 u189 u190 u191 u192 u193 : Value} {w' : World}, Below w.heap.size w w' → Q .ret ⟨#[.slice ta tn tc, c1, c2, c3, c4, c5, c6, c7, .bool true, .int .i64 0, u10, u11, u12, c13, u14, c15, u16, u17, u18, u19, u20, u21, u22, u23, u24, u25, c26, c27, c28, c29, c30, c31, c32, c33, c34, c35, c36, c37, c38, c39, c40, c41, c42, c43, c44, c45, c46, c47, c48, c49, c50, c51, c52, c53, c54, c55, c56, c57, c58, c59, c60, c61, c62, c63, c64, c65, c66, c67, c68, c69, c70, c71, c72, c73, c74, c75, c76, c77, c78, c79, c80, c81, c82, c83, c84, c85, c86, c87, c88, c89, c90, c91, c92, c93, c94, c95, c96, c97, c98, c99, c100, c101, u102, u103, u104, u105, u106, u107, u108, u109, u110, u111, u112, u113, u114, u115, u116, u117, u118, u119, u120, u121, u122, u123, u124, u125, u126, u127, u128, u129, u130, u131, u132, u133, u134, u135, u136, u137, u138, u139, u140, u141, u142, u143, u144, u145, u146, u147, u148, u149, u150, u151, u152, u153, u154, u155, u156, u157, u158, u159, u160, u161, u162, u163, u164, u165, u166, u167, u168, u169, u170, u171, u172, u173, u174, u175, u176, u177, u178, u179, u180, u181, u182, u183, u184, u185, u186, u187, u188, u189, u190, u191, u192, u193], []⟩ w')
    : Code.wp Tryd.prog ((Pc.frm 19 (Tryd.f3.body.getD .skip)).getD .skip) Q ⟨#[.slice ta tn tc, c1, c2, c3, c4, c5, c6, c7, c8, .int .i64 0, c10, c11, c12, c13, c14, c15, c16, c17, c18, c19, c20, c21, c22, c23, c24, c25, c26, c27, c28, c29, c30, c31, c32, c33, c34, c35, c36, c37, c38, c39, c40, c41, c42, c43, c44, c45, c46, c47, c48, c49, c50, c51, c52, c53, c54, c55, c56, c57, c58, c59, c60, c61, c62, c63, c64, c65, c66, c67, c68, c69, c70, c71, c72, c73, c74, c75, c76, c77, c78, c79, c80, c81, c82, c83, c84, c85, c86, c87, c88, c89, c90, c91, c92, c93, c94, c95, c96, c97, c98, c99, c100, c101, c102, c103, c104, c105, c106, c107, c108, c109, c110, c111, c112, c113, c114, c115, c116, c117, c118, c119, c120, c121, c122, c123, c124, c125, c126, c127, c128, c129, c130, c131, c132, c133, c134, c135, c136, c137, c138, c139, c140, c141, c142, c143, c144, c145, c146, c147, c148, c149, c150, c151, c152, c153, c154, c155, c156, c157, c158, c159, c160, c161, c162, c163, c164, c165, c166, c167, c168, c169, c170, c171, c172, c173, c174, c175, c176, c177, c178, c179, c180, c181, c182, c183, c184, c185, c186, c187, c188, c189, c190, c191, c192, c193], []⟩ w := by
  conv => arg 2; whnf
  obtain ⟨h16, htb⟩ := tfault_zero hf
  obtain ⟨i0, hI0, hz0, hz1, hz2⟩ := info_parts infoIntB
  obtain ⟨j0, hJ0, hy0, hy1, hy2⟩ := info_parts infoBool
  have HI0 := Lib.hid hI0
  have HZ0 := Lib.hid hz0
  have HZ1 := Lib.hid hz1
  have HZ2 := Lib.hid hz2
  have HJ0 := Lib.hid hJ0
  have HY0 := Lib.hid hy0
  have HY1 := Lib.hid hy1
  have HY2 := Lib.hid hy2
  have HBK := Lib.hid (back_ok ta tn tc tz w hT hf)
  have HKP := Lib.hid (fun (w2 : World) (h2 : Below w.heap.size w w2) => keeps_ok ta tn tc tz w2 (hT.keep h2) hf)
  have HTU := Lib.hid (fun (w2 : World) (h2 : Below w.heap.size w w2) => turns_ok ta tn tc tz w2 (hT.keep h2) hf)
  have HRK := Lib.hid (fun (w2 : World) (h2 : Below w.heap.size w w2) => rkeeps_ok ta tn tc tz w2 (hT.keep h2) hf)
  have HRT := Lib.hid (fun (w2 : World) (h2 : Below w.heap.size w w2) => rturns_ok ta tn tc tz w2 (hT.keep h2) hf)
  have HSM := Lib.hid (fun (w2 : World) (h2 : Below w.heap.size w w2) => same_nil w2 (below_laid hL h2))
  have HS5 := Lib.hid (fun (w2 : World) (h2 : Below w.heap.size w w2) => same_iface 5 w2 (below_laid hL h2) (by omega) (by decide))
  generalize keepsB tz = kb at *
  generalize turnsB tz = ub at *
  obtain rfl : tn = 16 := by rw [← hT.len]; exact h16
  have HT := Lib.hid hT.cells
  have HTB := Lib.hid htb
  have HB := Lib.hid (Below.refl w.heap.size w)
  clear hT hf hL h16 htb hI0 hz0 hz1 hz2 hJ0 hy0 hy1 hy2
  go_wp2_with fail
  refine HBK.out.mono ?_
  clear HBK
  rintro e0 w1 ⟨⟨hno, rfl⟩ | ⟨hon, b, hb, rfl, hRb⟩, hb0⟩
  · have HNO := Lib.hid hno
    clear hno
    rw [errV_some (by decide)]
    have HB := Lib.hid (HB.out.trans (hb0.mono HB.out.size))
    clear hb0
    go_wp2_with (first | (refine Ops.wpList_make rfl 22 _ _ rfl 3 i0 (.int .i64 0) Tryd.underlying22 HI0.out HZ0.out rfl HZ1.out (by rw [HZ2.out]; decide) 16 rfl rfl (by decide) ?_; intro bw w2 hbw hb2 hRw) | (refine Ops.wpList_make rfl 37 _ _ rfl 4 j0 (.bool false) Tryd.underlying37 HJ0.out HY0.out rfl HY1.out (by rw [HY2.out]; decide) 16 rfl rfl (by decide) ?_; intro bs w3 hbs hb3 hRs))
    have hne : bw ≠ bs := by have := hRw.lt; omega
    have HRW : Hid (Row w3 bw 3 ((inv tz 0).map (Value.int .i64))) := hRw.keep hb3 hRw.lt
    have HRS : Hid (Row w3 bs 4 (seenL tz 0)) := by
      show Row w3 bs 4 (seenL tz 0)
      rw [seenL_zero]; exact hRs
    have HE := Lib.hid (hb2.trans (hb3.mono hb2.size))
    have hs1 : w1.heap.size ≤ bs := by have := hRw.lt; omega
    clear hRw hRs hb2 hb3 hbs
    go_loopw [12, 20] (fun u v wr => ∃ i : Nat, i ≤ 16 ∧ v = .int .i64 i ∧ u = .int .i64 (onceN tz i) ∧ Row wr bw 3 ((inv tz i).map (Value.int .i64)) ∧ Row wr bs 4 (seenL tz i) ∧ Below w1.heap.size w1 wr) (fun _ v _ => 16 - (intOf v).toNat)
    case atStart => exact ⟨0, Nat.zero_le _, rfl, by rw [onceN_zero], HRW.out, HRS.out, HE.out⟩
    case round =>
      clear HRW HRS HE
      obtain ⟨i, hi, rfl, rfl, hRw, hRs, hE⟩ := hrel
      have HRW := Lib.hid hRw
      have HRS := Lib.hid hRs
      have HE := Lib.hid hE
      clear hRw hRs hE
      by_cases hlt : i < 16
      · obtain ⟨bt, ot, rfl, hbt, hc0⟩ := HT.out i hlt
        obtain ⟨bt', ot', e', _, hc⟩ := (HT.out.keep (HB.out.trans (HE.out.mono HB.out.size))) i hlt
        cases e'
        dsimp only at hc
        rw [tN_at HTB.out i] at hc
        have ht16 := tN_lt HTB.out i
        have hlw : bt < bs := by have := HB.out.size; omega
        have hlw2 : bt < bw := by have := HB.out.size; omega
        have hsc := (HRS.out.cell (tN tz i)).trans (seenL_get ht16)
        have hsf := HRS.out.frozen (tN tz i)
        have hget : ((inv tz i).map (Value.int .i64))[tN tz i]? = some (.int .i64 ((inv tz i).getD (tN tz i) 0)) := by
          have hlen : tN tz i < (inv tz i).length := by rw [inv_len]; exact ht16
          rw [List.getElem?_map, List.getElem?_eq_getElem hlen, List.getD_eq_getElem?_getD, List.getElem?_eq_getElem hlen]
          rfl
        have HSET := Lib.hid (HRS.out.set (tN tz i) (.bool true))
        rw [seenL_next ht16] at HSET
        have HO := Lib.hid (only_setCell wr bs (tN tz i) (.bool true))
        have HRW2 := Lib.hid (HRW.out.other HO.out hne)
        have hwc := (HRW2.out.cell (tN tz i)).trans hget
        have hwf := HRW2.out.frozen (tN tz i)
        have hset2 := HRW2.out.set (tN tz i) (.int .i64 ((i : Nat) : Int))
        rw [set_map] at hset2
        have HSET2 : Hid (Row ((wr.setCell ⟨bs, tN tz i, none⟩ (.bool true)).setCell ⟨bw, tN tz i, none⟩ (.int .i64 ((i : Nat) : Int))) bw 3 ((inv tz (i + 1)).map (Value.int .i64))) := hset2
        have HO2 := Lib.hid (only_setCell (wr.setCell ⟨bs, tN tz i, none⟩ (.bool true)) bw (tN tz i) (.int .i64 ((i : Nat) : Int)))
        have HRS2 := Lib.hid (HSET.out.other HO2.out hne.symm)
        have HE2 := Lib.hid ((HE.out.trans (HO.out.below hs1)).trans (HO2.out.below hbw))
        have hc2 : (wr.setCell ⟨bs, tN tz i, none⟩ (.bool true)).cell? ⟨bt, ot + i, none⟩ = some (.int .i64 ((tN tz i : Nat) : Int)) := (World.cell?_of_block (HO.out.block bt (by omega))).trans hc
        have HF1 := Lib.hid (fun h => onceN_hit (tz := tz) (i := i) h)
        have HF2 := Lib.hid (fun h => onceN_miss (tz := tz) (i := i) h)
        clear hc0 hset2 hget HRS HRW HSET HO HRW2 HO2 HE
        generalize (inv tz i).getD (tN tz i) 0 = old at *
        generalize (mask tz i).testBit (tN tz i) = sb at *
        generalize tN tz i = tv at *
        generalize hf' : onceN tz (i + 1) = f' at *
        have HFN := Lib.hid hf'
        clear hf'
        generalize onceN tz i = f at *
        cases sb
        · have HFF := Lib.hid (HF2.out rfl)
          clear HF1 HF2
          go_wp2_with fail
          exact ⟨⟨i + 1, by omega, by go_num, by rw [HFN.out, HFF.out], HSET2.out, HRS2.out, HE2.out⟩, by simp [intOf]; omega⟩
        · have HFF := Lib.hid (HF1.out rfl)
          clear HF1 HF2
          go_wp2_with fail
          exact ⟨⟨i + 1, by omega, by go_num, by rw [HFN.out, HFF.out], HSET2.out, HRS2.out, HE2.out⟩, by simp [intOf]; omega⟩
      · have e16 : i = 16 := by omega
        subst e16
        rw [onceN_no HNO.out]
        have HB := Lib.hid (HB.out.trans (HE.out.mono HB.out.size))
        clear HRW HRS HE
        go_wp2_with fail
        refine (HS5.out _ HB.out).mono ?_
        rintro e0 w4 ⟨rfl, hb0⟩
        have HB := Lib.hid (HB.out.trans (hb0.mono HB.out.size))
        clear hb0
        go_wp2_with fail
        refine (ints_nil _).mono ?_
        rintro e0 w5 ⟨rfl, hb0⟩
        have HB := Lib.hid (HB.out.trans (hb0.mono HB.out.size))
        clear hb0
        go_wp2_with fail
        refine (HKP.out _ HB.out).mono ?_
        rintro e0 w6 ⟨rfl, hb0⟩
        have HB := Lib.hid (HB.out.trans (hb0.mono HB.out.size))
        clear hb0
        go_wp2_with fail
        refine (HSM.out _ HB.out).mono ?_
        rintro e0 w7 ⟨rfl, hb0⟩
        have HB := Lib.hid (HB.out.trans (hb0.mono HB.out.size))
        clear hb0
        go_wp2_with fail
        refine (HTU.out _ HB.out).mono ?_
        rintro e0 w8 ⟨rfl, hb0⟩
        have HB := Lib.hid (HB.out.trans (hb0.mono HB.out.size))
        clear hb0
        go_wp2_with fail
        refine (HSM.out _ HB.out).mono ?_
        rintro e0 w9 ⟨rfl, hb0⟩
        have HB := Lib.hid (HB.out.trans (hb0.mono HB.out.size))
        clear hb0
        go_wp2_with fail
        refine (HRK.out _ HB.out).mono ?_
        rintro e0 w10 ⟨rfl, rfl⟩
        go_wp2_with fail
        refine (HRT.out _ HB.out).mono ?_
        rintro e0 w11 ⟨rfl, rfl⟩
        clear HKP HTU HRK HRT HSM HS5
        cases kb <;> cases ub
        all_goals
          go_wp2_with fail
          exact HB.out
  · have HON := Lib.hid hon
    have HRB := Lib.hid hRb
    clear hon hRb hb
    have HB := Lib.hid (HB.out.trans (hb0.mono HB.out.size))
    clear hb0
    go_wp2_with (first | (refine Ops.wpList_make rfl 22 _ _ rfl 3 i0 (.int .i64 0) Tryd.underlying22 HI0.out HZ0.out rfl HZ1.out (by rw [HZ2.out]; decide) 16 rfl rfl (by decide) ?_; intro bw w2 hbw hb2 hRw) | (refine Ops.wpList_make rfl 37 _ _ rfl 4 j0 (.bool false) Tryd.underlying37 HJ0.out HY0.out rfl HY1.out (by rw [HY2.out]; decide) 16 rfl rfl (by decide) ?_; intro bs w3 hbs hb3 hRs))
    have hne : bw ≠ bs := by have := hRw.lt; omega
    have HRW : Hid (Row w3 bw 3 ((inv tz 0).map (Value.int .i64))) := hRw.keep hb3 hRw.lt
    have HRS : Hid (Row w3 bs 4 (seenL tz 0)) := by
      show Row w3 bs 4 (seenL tz 0)
      rw [seenL_zero]; exact hRs
    have HE := Lib.hid (hb2.trans (hb3.mono hb2.size))
    have hs1 : w1.heap.size ≤ bs := by have := hRw.lt; omega
    clear hRw hRs hb2 hb3 hbs
    go_loopw [12, 20] (fun u v wr => ∃ i : Nat, i ≤ 16 ∧ v = .int .i64 i ∧ u = .int .i64 (onceN tz i) ∧ Row wr bw 3 ((inv tz i).map (Value.int .i64)) ∧ Row wr bs 4 (seenL tz i) ∧ Below w1.heap.size w1 wr) (fun _ v _ => 16 - (intOf v).toNat)
    case atStart => exact ⟨0, Nat.zero_le _, rfl, by rw [onceN_zero], HRW.out, HRS.out, HE.out⟩
    case round =>
      clear HRW HRS HE
      obtain ⟨i, hi, rfl, rfl, hRw, hRs, hE⟩ := hrel
      have HRW := Lib.hid hRw
      have HRS := Lib.hid hRs
      have HE := Lib.hid hE
      clear hRw hRs hE
      by_cases hlt : i < 16
      · obtain ⟨bt, ot, rfl, hbt, hc0⟩ := HT.out i hlt
        obtain ⟨bt', ot', e', _, hc⟩ := (HT.out.keep (HB.out.trans (HE.out.mono HB.out.size))) i hlt
        cases e'
        dsimp only at hc
        rw [tN_at HTB.out i] at hc
        have ht16 := tN_lt HTB.out i
        have hlw : bt < bs := by have := HB.out.size; omega
        have hlw2 : bt < bw := by have := HB.out.size; omega
        have hsc := (HRS.out.cell (tN tz i)).trans (seenL_get ht16)
        have hsf := HRS.out.frozen (tN tz i)
        have hget : ((inv tz i).map (Value.int .i64))[tN tz i]? = some (.int .i64 ((inv tz i).getD (tN tz i) 0)) := by
          have hlen : tN tz i < (inv tz i).length := by rw [inv_len]; exact ht16
          rw [List.getElem?_map, List.getElem?_eq_getElem hlen, List.getD_eq_getElem?_getD, List.getElem?_eq_getElem hlen]
          rfl
        have HSET := Lib.hid (HRS.out.set (tN tz i) (.bool true))
        rw [seenL_next ht16] at HSET
        have HO := Lib.hid (only_setCell wr bs (tN tz i) (.bool true))
        have HRW2 := Lib.hid (HRW.out.other HO.out hne)
        have hwc := (HRW2.out.cell (tN tz i)).trans hget
        have hwf := HRW2.out.frozen (tN tz i)
        have hset2 := HRW2.out.set (tN tz i) (.int .i64 ((i : Nat) : Int))
        rw [set_map] at hset2
        have HSET2 : Hid (Row ((wr.setCell ⟨bs, tN tz i, none⟩ (.bool true)).setCell ⟨bw, tN tz i, none⟩ (.int .i64 ((i : Nat) : Int))) bw 3 ((inv tz (i + 1)).map (Value.int .i64))) := hset2
        have HO2 := Lib.hid (only_setCell (wr.setCell ⟨bs, tN tz i, none⟩ (.bool true)) bw (tN tz i) (.int .i64 ((i : Nat) : Int)))
        have HRS2 := Lib.hid (HSET.out.other HO2.out hne.symm)
        have HE2 := Lib.hid ((HE.out.trans (HO.out.below hs1)).trans (HO2.out.below hbw))
        have hc2 : (wr.setCell ⟨bs, tN tz i, none⟩ (.bool true)).cell? ⟨bt, ot + i, none⟩ = some (.int .i64 ((tN tz i : Nat) : Int)) := (World.cell?_of_block (HO.out.block bt (by omega))).trans hc
        have HF1 := Lib.hid (fun h => onceN_hit (tz := tz) (i := i) h)
        have HF2 := Lib.hid (fun h => onceN_miss (tz := tz) (i := i) h)
        clear hc0 hset2 hget HRS HRW HSET HO HRW2 HO2 HE
        generalize (inv tz i).getD (tN tz i) 0 = old at *
        generalize (mask tz i).testBit (tN tz i) = sb at *
        generalize tN tz i = tv at *
        generalize hf' : onceN tz (i + 1) = f' at *
        have HFN := Lib.hid hf'
        clear hf'
        generalize onceN tz i = f at *
        cases sb
        · have HFF := Lib.hid (HF2.out rfl)
          clear HF1 HF2
          go_wp2_with fail
          exact ⟨⟨i + 1, by omega, by go_num, by rw [HFN.out, HFF.out], HSET2.out, HRS2.out, HE2.out⟩, by simp [intOf]; omega⟩
        · have HFF := Lib.hid (HF1.out rfl)
          clear HF1 HF2
          go_wp2_with fail
          exact ⟨⟨i + 1, by omega, by go_num, by rw [HFN.out, HFF.out], HSET2.out, HRS2.out, HE2.out⟩, by simp [intOf]; omega⟩
      · have e16 : i = 16 := by omega
        subst e16
        rw [onceN_yes HON.out]
        have HRB := Lib.hid (row_isN (HRB.out.keep HE.out HRB.out.lt) inv_len (by decide))
        have HRW := Lib.hid (row_isN HRW.out inv_len (by decide))
        have HB := Lib.hid (HB.out.trans (HE.out.mono HB.out.size))
        clear HRS HE
        go_wp2_with fail
        refine (HSM.out _ HB.out).mono ?_
        rintro e0 w4 ⟨rfl, hb0⟩
        have HRB := Lib.hid (HRB.out.keep hb0)
        have HRW := Lib.hid (HRW.out.keep hb0)
        have HB := Lib.hid (HB.out.trans (hb0.mono HB.out.size))
        clear hb0
        go_wp2_with fail
        refine (ints_self _ _ 16 16 16 _ _ HRB.out HRW.out).mono ?_
        rintro e0 w5 ⟨rfl, hb0⟩
        have HB := Lib.hid (HB.out.trans (hb0.mono HB.out.size))
        clear hb0
        go_wp2_with fail
        refine (HKP.out _ HB.out).mono ?_
        rintro e0 w6 ⟨rfl, hb0⟩
        have HB := Lib.hid (HB.out.trans (hb0.mono HB.out.size))
        clear hb0
        go_wp2_with fail
        refine (HSM.out _ HB.out).mono ?_
        rintro e0 w7 ⟨rfl, hb0⟩
        have HB := Lib.hid (HB.out.trans (hb0.mono HB.out.size))
        clear hb0
        go_wp2_with fail
        refine (HTU.out _ HB.out).mono ?_
        rintro e0 w8 ⟨rfl, hb0⟩
        have HB := Lib.hid (HB.out.trans (hb0.mono HB.out.size))
        clear hb0
        go_wp2_with fail
        refine (HSM.out _ HB.out).mono ?_
        rintro e0 w9 ⟨rfl, hb0⟩
        have HB := Lib.hid (HB.out.trans (hb0.mono HB.out.size))
        clear hb0
        go_wp2_with fail
        refine (HRK.out _ HB.out).mono ?_
        rintro e0 w10 ⟨rfl, rfl⟩
        go_wp2_with fail
        refine (HRT.out _ HB.out).mono ?_
        rintro e0 w11 ⟨rfl, rfl⟩
        clear HKP HTU HRK HRT HSM HS5
        cases kb <;> cases ub
        all_goals
          go_wp2_with fail
          exact HB.out
end Bl
end Go.Proofs.YtmnefdcgknmnjaaDoor
