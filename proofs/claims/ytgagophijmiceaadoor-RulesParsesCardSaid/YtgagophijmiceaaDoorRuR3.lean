/- WALK: the reader's rule: a table's digits. -/
import Derived.Test.YtgagophijmiceaaDoorRuR2
namespace Go.Proofs.YtgagophijmiceaaDoor
set_option linter.unusedSimpArgs false
set_option linter.unusedVariables false
open Go.RowKit
namespace Pr
open Tld Mem Bl Pn Pw Rd

set_option maxHeartbeats 16000000 in
set_option maxRecDepth 1000000 in
theorem ru_tab (w0 w : World) (s : ByteArray) (ob b i cnt st : Nat) (K Bo S ra : Int) (tu : ByteArray) (vs0 : Value) (hs : s.size ≤ 9223372036854775807) (hi : i ≤ s.size) (hc : cnt ≤ 1024) (hst : st ≤ 4) (hT : RSt w0 w ob b K Bo S (st : Nat) ra tu s (i) ([]) vs0)
    (c1 c3 c4 c5 c6 c7 c8 c9 c10 c11 c12 c13 c14 c15 c16 c17 c18 c19 c20 c21 c22 c23 c24 c25 c26 c27 c28 c29 c30 c31 c32 c33 c34 c35 c36 c37 c38 c39 c40 c41 c42 c43 c44 c45 c46 c47 c48 c49 c50 c51 c52 c53 c54 c55 c56 c57 c58 c59 c60 c61 c62 c63 c64 c65 c66 c67 c68 c69 c70 c71 c72 c73 c74 c75 c76 c77 c78 c79 c80 c81 c82 c83 c84 c85 c86 c87 c88 c89 c90 c91 c94 c95 c96 c97 c98 c99 c100 c101 c102 c103 c104 c105 c106 c107 c108 c109 c110 c111 c112 c113 c114 c115 c116 c117 c118 c119 c120 c121 c122 c123 c124 c125 c126 c127 c128 c129 c130 c131 c132 c133 c134 c135 c136 c137 c138 c139 c140 c141 c142 c143 c144 c145 c146 c147 c148 c149 c150 c151 c152 c153 c154 c155 c156 c157 c158 c159 c160 c161 c162 c163 c164 c165 c166 c167 c168 c169 c170 c171 c172 c173 c174 c175 c176 c177 c178 c179 c180 c181 c182 c183 c184 c185 c186 c187 c188 c189 c190 c191 c192 c193 c194 c195 c196 c197 c198 c199 c200 c201 c202 c203 c204 c205 c206 c207 c208 c209 c210 c211 c212 c213 c214 c215 c216 c217 c218 c219 c220 c221 c222 c223 c224 c225 c226 c227 c228 c229 c230 c231 c232 c233 c234 c235 c236 c237 c238 c239 c240 c241 c242 c243 c244 c245 c246 c247 c248 c249 c250 c251 c252 c253 c254 c255 c256 c257 c258 : Value) (Q : Exit → Act → World → Prop)
    (hnext : ∀ {u94 u95 u96 u97 u98 u99 u100 u101 u102 u103 u104 u105 u106 u107 u108 u109 u110 u111 u112 u113 u114 u115 u116 u117 u118 u119 u120 u121 u122 u123 u124 u125 u126 u127 u128 u129 u130 u131 u132 u133 u134 u135 u136 u137 u138 u139 u140 u141 u142 u143 u144 u145 u146 u147 u148 u149 u150 u151 u152 u153 u154 u155 u156 u157 u158 u159 u160 u161 u162 : Value} {w' : World}, tabO s.data.toList st i cnt = none → i + cnt ≤ s.size → RStE w0 w' ob b K Bo S (st : Nat) ra tu s (i + cnt) (digL s.data.toList i cnt) → Q .normal ⟨#[.pointer (some ⟨b, 0, none⟩), c1, .pointer (some ⟨ob, 0, none⟩), c3, c4, c5, c6, c7, c8, c9, c10, c11, c12, c13, c14, c15, c16, c17, c18, c19, c20, c21, c22, c23, c24, c25, c26, c27, c28, c29, c30, c31, c32, c33, c34, c35, c36, c37, c38, c39, c40, c41, c42, c43, c44, c45, c46, c47, c48, c49, c50, c51, c52, c53, c54, c55, c56, c57, c58, c59, c60, c61, c62, c63, c64, c65, c66, c67, c68, c69, c70, c71, c72, c73, c74, c75, c76, c77, c78, c79, c80, c81, c82, c83, c84, c85, c86, c87, c88, c89, c90, c91, .int .i64 ((cnt : Nat) : Int), .int .i64 ((cnt : Nat) : Int), u94, u95, u96, u97, u98, u99, u100, u101, u102, u103, u104, u105, u106, u107, u108, u109, u110, u111, u112, u113, u114, u115, u116, u117, u118, u119, u120, u121, u122, u123, u124, u125, u126, u127, u128, u129, u130, u131, u132, u133, u134, u135, u136, u137, u138, u139, u140, u141, u142, u143, u144, u145, u146, u147, u148, u149, u150, u151, u152, u153, u154, u155, u156, u157, u158, u159, u160, u161, u162, c163, c164, c165, c166, c167, c168, c169, c170, c171, c172, c173, c174, c175, c176, c177, c178, c179, c180, c181, c182, c183, c184, c185, c186, c187, c188, c189, c190, c191, c192, c193, c194, c195, c196, c197, c198, c199, c200, c201, c202, c203, c204, c205, c206, c207, c208, c209, c210, c211, c212, c213, c214, c215, c216, c217, c218, c219, c220, c221, c222, c223, c224, c225, c226, c227, c228, c229, c230, c231, c232, c233, c234, c235, c236, c237, c238, c239, c240, c241, c242, c243, c244, c245, c246, c247, c248, c249, c250, c251, c252, c253, c254, c255, c256, c257, c258], []⟩ w')
    (hbad : ∀ (a' : Act) (w' : World) (p : Nat), a'.defers = [] → tabO s.data.toList st i cnt = some p → Below b w0 w' → Q (.panic [{ v := .iface 57 (.agg #[.int .i64 ((p : Nat) : Int)]), recovered := false }]) a' w')
    : Code.wp Tryd.prog ((Pc.blk 3 (Tryd.f30.body.getD .skip)).getD .skip) Q ⟨#[.pointer (some ⟨b, 0, none⟩), c1, .pointer (some ⟨ob, 0, none⟩), c3, c4, c5, c6, c7, c8, c9, c10, c11, c12, c13, c14, c15, c16, c17, c18, c19, c20, c21, c22, c23, c24, c25, c26, c27, c28, c29, c30, c31, c32, c33, c34, c35, c36, c37, c38, c39, c40, c41, c42, c43, c44, c45, c46, c47, c48, c49, c50, c51, c52, c53, c54, c55, c56, c57, c58, c59, c60, c61, c62, c63, c64, c65, c66, c67, c68, c69, c70, c71, c72, c73, c74, c75, c76, c77, c78, c79, c80, c81, c82, c83, c84, c85, c86, c87, c88, c89, c90, c91, .int .i64 ((cnt : Nat) : Int), .int .i64 0, c94, c95, c96, c97, c98, c99, c100, c101, c102, c103, c104, c105, c106, c107, c108, c109, c110, c111, c112, c113, c114, c115, c116, c117, c118, c119, c120, c121, c122, c123, c124, c125, c126, c127, c128, c129, c130, c131, c132, c133, c134, c135, c136, c137, c138, c139, c140, c141, c142, c143, c144, c145, c146, c147, c148, c149, c150, c151, c152, c153, c154, c155, c156, c157, c158, c159, c160, c161, c162, c163, c164, c165, c166, c167, c168, c169, c170, c171, c172, c173, c174, c175, c176, c177, c178, c179, c180, c181, c182, c183, c184, c185, c186, c187, c188, c189, c190, c191, c192, c193, c194, c195, c196, c197, c198, c199, c200, c201, c202, c203, c204, c205, c206, c207, c208, c209, c210, c211, c212, c213, c214, c215, c216, c217, c218, c219, c220, c221, c222, c223, c224, c225, c226, c227, c228, c229, c230, c231, c232, c233, c234, c235, c236, c237, c238, c239, c240, c241, c242, c243, c244, c245, c246, c247, c248, c249, c250, c251, c252, c253, c254, c255, c256, c257, c258], []⟩ w := by
  conv => arg 2; whnf
  have HSZ := Lib.hid hs
  have HC := Lib.hid hc
  have HST := Lib.hid hst
  have HI := Lib.hid hi
  have HT := Lib.hid hT
  clear hs hi hc hst hT
  go_wp2_with fail
  go_loopw [93] (fun v wx => ∃ (j : Nat) (vs : Value), v = .int .i64 ((j : Nat) : Int) ∧ j ≤ cnt ∧ i + j ≤ s.size ∧ tabO s.data.toList st i cnt = tabO s.data.toList st (i + j) (cnt - j) ∧ RSt w0 wx ob b K Bo S (st : Nat) ra tu s (i + j) (digL s.data.toList i j) vs) (fun v _ => cnt - (RowKit.intOf v).toNat)
  case atStart => exact ⟨0, vs0, rfl, Nat.zero_le _, HI.out, rfl, HT.out⟩
  case round =>
    clear HT
    obtain ⟨j, vs, rfl, hj, hij, htb, ht⟩ := hrel
    obtain ⟨z, hz⟩ : ∃ z, z = i + j := ⟨_, rfl⟩
    rw [← hz] at hij htb ht
    have HT := Lib.hid ht
    have HZE := Lib.hid hz
    have HTB := Lib.hid htb
    have HZL := Lib.hid hij
    clear ht hz htb
    have f0 := HT.out.r.cell 0
    have f1 := HT.out.r.cell 1
    have f3 := HT.out.q.cell 3
    unfold rdr at f0 f1
    unfold rbox at f3
    dsimp only [List.getElem?_cons_succ, List.getElem?_cons_zero] at f0 f1 f3
    by_cases hjc : j < cnt
    · have hji : (j : Int) < (cnt : Int) := by omega
      have HJC : Hid (j + 1 ≤ cnt) := Lib.hid hjc
      have HTC : Hid (tabO s.data.toList st i cnt = if z < s.data.toList.length ∧ 48 ≤ (s.data.toList.getD z 0).toNat ∧ (s.data.toList.getD z 0).toNat - 48 < st then tabO s.data.toList st (z + 1) (cnt - (j + 1)) else some z) := Lib.hid (by
        rw [HTB.out, show cnt - j = (cnt - (j + 1)) + 1 by omega]
        rfl)
      have E1 : Hid (wrap64 ((j : Int) + 1) = ((j + 1 : Nat) : Int)) := Lib.hid (wr_nat (by push_cast; rfl) (by have := HC.out; omega))
      clear hj hjc
      by_cases hzs : z < s.size
      · have hzi : ((z : Int) == (s.size : Int)) = false := by rw [beq_eq_false_iff_ne]; omega
        have hg := get_drop s hzs
        have HZS := Lib.hid hzs
        obtain ⟨x, hx⟩ : ∃ x, x = s.data.toList.getD z 0 := ⟨_, rfl⟩
        rw [← hx] at hg
        have HX := Lib.hid hx
        clear hx
        by_cases h48 : x.toNat < 48
        · have hxl : (x.toNat : Int) < 48 := by omega
          have HBD : Hid (tabO s.data.toList st i cnt = some z) := Lib.hid (by rw [HTC.out, ← HX.out, if_neg (by omega)])
          clear h48
          go_upto_region 27 with fail
          go_big_quiet (fail)
          generalize hw2 : World.drewN wr _ = w2 at *
          have hon : Only b wr w2 := by rw [← hw2]; exact only_drewN (Only.refl _ _) _
          have HR2 := Lib.hid (show Row w2 b 62 (rdr s z) by rw [← hw2]; exact HT.out.r.drewN _)
          have HT := Lib.hid (HT.out.read hon HR2.out)
          clear hon hw2 f0 f1
          clear f3 HR2
          have f0 := HT.out.r.cell 0
          have f1 := HT.out.r.cell 1
          have f3 := HT.out.q.cell 3
          unfold rdr at f0 f1
          unfold rbox at f3
          dsimp only [List.getElem?_cons_succ, List.getElem?_cons_zero] at f0 f1 f3
          go_wp2_with fail
          refine (fail_any _ z w2).mono ?_
          rintro e3 w3 ⟨rfl, rfl⟩
          go_wp2_with fail
          exact hbad _ _ z rfl HBD.out HT.out.bl
        · have hxl : ¬ (x.toNat : Int) < 48 := by omega
          obtain ⟨d, hd⟩ : ∃ d, d = x.toNat - 48 := ⟨_, rfl⟩
          have hx256 : x.toNat < 256 := x.toNat_lt
          have hw8 : IntKind.u8.wrap ((x.toNat : Int) - 48) = ((d : Nat) : Int) := by
            rw [u8_in (by omega) (by omega)]
            omega
          have HDD : Hid (((x.toNat : Int) - 48) = ((d : Nat) : Int)) := Lib.hid (by omega)
          have HWD : Hid (wrap64 ((d : Nat) : Int) = ((d : Nat) : Int)) := Lib.hid (wr_nat rfl (by omega))
          by_cases hds : d < st
          · have hdi : ¬ ((st : Nat) : Int) ≤ ((d : Nat) : Int) := by omega
            have HTN : Hid (tabO s.data.toList st i cnt = tabO s.data.toList st (z + 1) (cnt - (j + 1))) := Lib.hid (by rw [HTC.out, ← HX.out, if_pos ⟨by rw [← Lib.size_eq]; exact hzs, by omega, by omega⟩])
            have E2 : Hid (wrap64 ((z : Int) + 1) = ((z + 1 : Nat) : Int)) := Lib.hid (wr48 (by push_cast; rfl) (by have := HSZ.out; omega))
            have HNX : Hid (digL s.data.toList i (j + 1) = digL s.data.toList i j ++ [((d : Nat) : Int)]) := Lib.hid (by rw [digL_succ, ← HZE.out, ← HX.out, HDD.out])
            have HLN : Hid ((digL s.data.toList i j).length = j) := Lib.hid (digL_len _ _ _)
            have HK2 : Hid (j ≤ 1000000) := Lib.hid (by have := HC.out; have := HJC.out; omega)
            clear h48 hds hd hx256
            have hwd := HWD.out
            have hwd' := wr_same hwd
            go_upto_region 27 with fail
            go_big_quiet (fail)
            generalize hw2 : World.drewN wr _ = w2 at *
            have hon : Only b wr w2 := by rw [← hw2]; exact only_drewN (Only.refl _ _) _
            have HR2 := Lib.hid (show Row w2 b 62 (rdr s z) by rw [← hw2]; exact HT.out.r.drewN _)
            have HT := Lib.hid (HT.out.read hon HR2.out)
            clear hon hw2 f0 f1
            clear f3 HR2
            go_upto_region 29 with fail
            have HTd := Lib.hid HT.out.drew
            clear HT
            refine wp_region_noPanic ?_
            refine Rt.region_Cn (Sc2 (fun w2 => w2.cell? ⟨b, 0, none⟩ = some (.string s) ∧ w2.cell? ⟨b, 1, none⟩ = some (.int .i64 ((z : Nat) : Int))) (fun w2 => w2.cell? ⟨ob, 5, none⟩ = some vs) 16) 17 #[false, false, false, false, false, false, false, false, false, false, false, false, false, false, false, false, false] (by kernel_rfl) (by kernel_rfl) (by kernel_rfl) ?_
            have hS1 : ∀ o, Sc2 (fun w2 => w2.cell? ⟨b, 0, none⟩ = some (.string s) ∧ w2.cell? ⟨b, 1, none⟩ = some (.int .i64 ((z : Nat) : Int))) (fun w2 => w2.cell? ⟨ob, 5, none⟩ = some vs) 16 o w2.drew := Sc2.of ⟨HTd.out.r.cell 0, HTd.out.r.cell 1⟩ (HTd.out.q.cell 5)
            refine Rt.C_take (none) (i := 0) (oi := _) (v := ?_) rfl (by kernel_rfl) (by kernel_rfl) (by kernel_rfl) (by kernel_rfl) (fun _ _ _ h => h) (Sc2.other (by decide)) (Or.inl ⟨by rfl, ?_⟩) (fun o' _ => hS1 o') ?_
            rotate_left
            · intro w2 hSw
              obtain ⟨s0, s1⟩ := hSw
              go_simp
              try with_reducible rfl
            simp only [Act.put, List.getElem_toArray, List.getElem_cons_succ, List.getElem_cons_zero, List.setIfInBounds_toArray, List.set_cons_zero, List.set_cons_succ]
            refine Rt.C_take (some 16) (i := 1) (oi := _) (v := ?_) rfl (by kernel_rfl) (by kernel_rfl) (by kernel_rfl) (by kernel_rfl) (fun _ _ _ h => h) (Sc2.other (by decide)) (Or.inl ⟨by rfl, ?_⟩) (fun o' _ => hS1 o') ?_
            rotate_left
            · intro w2 hSw
              have s0 := hSw rfl
              go_simp
              try with_reducible rfl
            simp only [Act.put, List.getElem_toArray, List.getElem_cons_succ, List.getElem_cons_zero, List.setIfInBounds_toArray, List.set_cons_zero, List.set_cons_succ]
            refine Rt.C_take (none) (i := 2) (oi := _) (v := ?_) rfl (by kernel_rfl) (by kernel_rfl) (by kernel_rfl) (by kernel_rfl) (fun _ _ _ h => h) (Sc2.other (by decide)) (Or.inl ⟨by rfl, ?_⟩) (fun o' _ => hS1 o') ?_
            rotate_left
            · intro w2 hSw
              obtain ⟨s0, s1⟩ := hSw
              go_simp
              try with_reducible rfl
            simp only [Act.put, List.getElem_toArray, List.getElem_cons_succ, List.getElem_cons_zero, List.setIfInBounds_toArray, List.set_cons_zero, List.set_cons_succ]
            refine Rt.C_take (none) (i := 3) (oi := _) (v := ?_) rfl (by kernel_rfl) (by kernel_rfl) (by kernel_rfl) (by kernel_rfl) (fun _ _ _ h => h) (Sc2.other (by decide)) (Or.inl ⟨by rfl, ?_⟩) (fun o' _ => hS1 o') ?_
            rotate_left
            · intro w2 hSw
              obtain ⟨s0, s1⟩ := hSw
              go_simp
              try with_reducible rfl
            simp only [Act.put, List.getElem_toArray, List.getElem_cons_succ, List.getElem_cons_zero, List.setIfInBounds_toArray, List.set_cons_zero, List.set_cons_succ]
            refine Rt.C_take (none) (i := 4) (oi := _) (v := ?_) rfl (by kernel_rfl) (by kernel_rfl) (by kernel_rfl) (by kernel_rfl) (fun _ _ _ h => h) (Sc2.other (by decide)) (Or.inl ⟨by rfl, ?_⟩) (fun o' _ => hS1 o') ?_
            rotate_left
            · intro w2 hSw
              obtain ⟨s0, s1⟩ := hSw
              go_simp
              try with_reducible rfl
            simp only [Act.put, List.getElem_toArray, List.getElem_cons_succ, List.getElem_cons_zero, List.setIfInBounds_toArray, List.set_cons_zero, List.set_cons_succ]
            refine Rt.C_take (none) (i := 5) (oi := _) (v := ?_) rfl (by kernel_rfl) (by kernel_rfl) (by kernel_rfl) (by kernel_rfl) (fun _ _ _ h => h) (Sc2.other (by decide)) (Or.inl ⟨by rfl, ?_⟩) (fun o' _ => hS1 o') ?_
            rotate_left
            · intro w2 hSw
              obtain ⟨s0, s1⟩ := hSw
              go_simp
              try with_reducible rfl
            simp only [Act.put, List.getElem_toArray, List.getElem_cons_succ, List.getElem_cons_zero, List.setIfInBounds_toArray, List.set_cons_zero, List.set_cons_succ]
            refine Rt.C_take (none) (i := 6) (oi := _) (v := ?_) rfl (by kernel_rfl) (by kernel_rfl) (by kernel_rfl) (by kernel_rfl) (fun _ _ _ h => h) (Sc2.other (by decide)) (Or.inl ⟨by rfl, ?_⟩) (fun o' _ => hS1 o') ?_
            rotate_left
            · intro w2 hSw
              obtain ⟨s0, s1⟩ := hSw
              go_simp
              try with_reducible rfl
            simp only [Act.put, List.getElem_toArray, List.getElem_cons_succ, List.getElem_cons_zero, List.setIfInBounds_toArray, List.set_cons_zero, List.set_cons_succ]
            refine Rt.C_take (none) (i := 7) (oi := _) (v := ?_) rfl (by kernel_rfl) (by kernel_rfl) (by kernel_rfl) (by kernel_rfl) (fun _ _ _ h => h) (Sc2.other (by decide)) (Or.inl ⟨by rfl, ?_⟩) (fun o' _ => hS1 o') ?_
            rotate_left
            · intro w2 hSw
              obtain ⟨s0, s1⟩ := hSw
              go_simp
              try with_reducible rfl
            simp only [Act.put, List.getElem_toArray, List.getElem_cons_succ, List.getElem_cons_zero, List.setIfInBounds_toArray, List.set_cons_zero, List.set_cons_succ]
            refine Rt.C_take (none) (i := 8) (oi := _) (v := ?_) rfl (by kernel_rfl) (by kernel_rfl) (by kernel_rfl) (by kernel_rfl) (fun _ _ _ h => h) (Sc2.other (by decide)) (Or.inl ⟨by rfl, ?_⟩) (fun o' _ => hS1 o') ?_
            rotate_left
            · intro w2 hSw
              obtain ⟨s0, s1⟩ := hSw
              go_simp
              try with_reducible rfl
            simp only [Act.put, List.getElem_toArray, List.getElem_cons_succ, List.getElem_cons_zero, List.setIfInBounds_toArray, List.set_cons_zero, List.set_cons_succ]
            refine Rt.C_take (none) (i := 9) (oi := _) (v := ?_) rfl (by kernel_rfl) (by kernel_rfl) (by kernel_rfl) (by kernel_rfl) (fun _ _ _ h => h) (Sc2.other (by decide)) (Or.inl ⟨by rfl, ?_⟩) (fun o' _ => hS1 o') ?_
            rotate_left
            · intro w2 hSw
              obtain ⟨s0, s1⟩ := hSw
              go_simp
              try with_reducible rfl
            simp only [Act.put, List.getElem_toArray, List.getElem_cons_succ, List.getElem_cons_zero, List.setIfInBounds_toArray, List.set_cons_zero, List.set_cons_succ]
            refine Rt.C_take (none) (i := 10) (oi := _) (v := ?_) rfl (by kernel_rfl) (by kernel_rfl) (by kernel_rfl) (by kernel_rfl) (fun _ _ _ h => h) (Sc2.other (by decide)) (Or.inl ⟨by rfl, ?_⟩) (fun o' _ => hS1 o') ?_
            rotate_left
            · intro w2 hSw
              obtain ⟨s0, s1⟩ := hSw
              go_simp
              try with_reducible rfl
            simp only [Act.put, List.getElem_toArray, List.getElem_cons_succ, List.getElem_cons_zero, List.setIfInBounds_toArray, List.set_cons_zero, List.set_cons_succ]
            refine Rt.C_take (none) (i := 11) (oi := _) (v := (.int .u8 ((d : Nat) : Int))) rfl (by kernel_rfl) (by kernel_rfl) (by kernel_rfl) (by kernel_rfl) (fun _ _ _ h => h) (Sc2.other (by decide)) (Or.inl ⟨by rfl, ?_⟩) (fun o' _ => hS1 o') ?_
            · intro w2 hSw
              obtain ⟨s0, s1⟩ := hSw
              go_simp
              try with_reducible rfl
            simp only [Act.put, List.getElem_toArray, List.getElem_cons_succ, List.getElem_cons_zero, List.setIfInBounds_toArray, List.set_cons_zero, List.set_cons_succ]
            refine Rt.C_take (none) (i := 12) (oi := _) (v := (.int .i64 ((d : Nat) : Int))) rfl (by kernel_rfl) (by kernel_rfl) (by kernel_rfl) (by kernel_rfl) (fun _ _ _ h => h) (Sc2.other (by decide)) (Or.inl ⟨by rfl, ?_⟩) (fun o' _ => hS1 o') ?_
            · intro w2 hSw
              obtain ⟨s0, s1⟩ := hSw
              go_simp
              try with_reducible rfl
            simp only [Act.put, List.getElem_toArray, List.getElem_cons_succ, List.getElem_cons_zero, List.setIfInBounds_toArray, List.set_cons_zero, List.set_cons_succ]
            clear hS1
            refine Rt.C_ready (rs := [13]) (by kernel_rfl) (by simp) ?_
            refine Rt.AllC.cons (i := 13) (o := _) rfl (by rfl) (fun K' hK => ?_) ?_
            · skip
              have hnew := row_alloc w2.drew 3 [.int .i64 ((d : Nat) : Int)]
              have hbn : Below w2.drew.heap.size w2.drew (w2.drew.alloc (.cells [.int .i64 ((d : Nat) : Int)].toArray 3)) := (Below.refl _ _).alloc (Nat.le_refl _) _
              have HTa := Lib.hid (HTd.out.keep hbn)
              have HCEL := Lib.hid (hnew.cell 0)
              clear hnew hbn HTd
              go_simp
              refine hK _ _ (fun o _ => Sc2.of ⟨HTa.out.r.cell 0, HTa.out.r.cell 1⟩ (HTa.out.q.cell 5) o) ?_
              clear hK K'
              simp only [Act.put, List.getElem_toArray, List.getElem_cons_succ, List.getElem_cons_zero, List.setIfInBounds_toArray, List.set_cons_zero, List.set_cons_succ]
              refine Rt.C_ready (rs := [14]) (by kernel_rfl) (by simp) ?_
              refine Rt.AllC.cons (i := 14) (o := _) rfl (by rfl) (fun K' hK => ?_) ?_
              · skip
                refine wp_app_ints _ _ rfl w0.heap.size vs (j) (digL s.data.toList i j) (by rfl) (by have h := HTa.out.o; rw [HLN.out] at h; exact h) w2.drew.heap.size 0 1 1 [((d : Nat) : Int)] (by rfl) rfl ?c1 HK2.out (by decide) (by decide) HTa.out.sz ?_
                case c1 =>
                  intro j' hj'
                  obtain rfl : j' = 0 := by omega
                  exact HCEL.out
                intro g7 c7 w7 ho7 hg7
                rw [List.map_append] at ho7
                have HPU := Lib.hid (HTa.out.push (x := ((d : Nat) : Int)) hg7 (by rw [HLN.out]; exact ho7))
                have HM7 := Lib.hid (HTa.out.after hg7)
                clear ho7 hg7 HTa HCEL
                refine hK _ _ (fun o _ => Sc2.of ⟨HM7.out.2.1.cell 0, HM7.out.2.1.cell 1⟩ (HM7.out.1.cell 5) o) ?_
                clear hK K'
                simp only [Act.put, List.getElem_toArray, List.getElem_cons_succ, List.getElem_cons_zero, List.setIfInBounds_toArray, List.set_cons_zero, List.set_cons_succ]
                refine Rt.C_take (none) (i := 15) (oi := _) (v := ?_) rfl (by kernel_rfl) (by kernel_rfl) (by kernel_rfl) (by kernel_rfl) (fun _ _ _ h => h) (Sc2.other (by decide)) (Or.inl ⟨by rfl, ?_⟩) (fun o _ => Sc2.of ⟨HM7.out.2.1.cell 0, HM7.out.2.1.cell 1⟩ (HM7.out.1.cell 5) o) ?_
                rotate_left
                · intro w2 hSw
                  obtain ⟨s0, s1⟩ := hSw
                  go_simp
                  try with_reducible rfl
                simp only [Act.put, List.getElem_toArray, List.getElem_cons_succ, List.getElem_cons_zero, List.setIfInBounds_toArray, List.set_cons_zero, List.set_cons_succ]
                refine Rt.C_ready (rs := [16]) (by kernel_rfl) (by simp) ?_
                refine Rt.AllC.cons (i := 16) (o := _) rfl (by rfl) (fun K' hK => ?_) ?_
                · skip
                  have c2 := HM7.out.1.cell 5
                  have z2 := HM7.out.1.frozen 5
                  unfold rbox at c2
                  dsimp only [List.getElem?_cons_succ, List.getElem?_cons_zero] at c2
                  go_simp
                  refine hK _ _ (fun o hl => Sc2.late ⟨HPU.out.r.cell 0, HPU.out.r.cell 1⟩ (by rfl) o hl) ?_
                  clear hK K'
                  simp only [Act.put, List.getElem_toArray, List.getElem_cons_succ, List.getElem_cons_zero, List.setIfInBounds_toArray, List.set_cons_zero, List.set_cons_succ]
                  refine Rt.C_done (by kernel_rfl) ?_ _
                  refine NoPanic.normal ?_
                  clear c2 z2 HM7 hg hw8 hwd hwd' hxl hdi hzi
                  generalize w7.setCell ⟨ob, 5, none⟩ (.slice (some ⟨g7, 0, none⟩) (j + 1) c7) = w9 at *
                  have f1 := HPU.out.r.cell 1
                  have z1 := HPU.out.r.frozen 1
                  unfold rdr at f1
                  dsimp only [List.getElem?_cons_succ, List.getElem?_cons_zero] at f1
                  have e2 := E2.out
                  go_wp2_with fail
                  clear f1 z1 e2
                  have hon := only_setCell w9 b 1 (.int .i64 ((z + 1 : Nat) : Int))
                  have hr2 : Row (w9.setCell ⟨b, 1, none⟩ (.int .i64 ((z + 1 : Nat) : Int))) b 62 (rdr s (z + 1)) := HPU.out.r.set 1 (.int .i64 ((z + 1 : Nat) : Int))
                  have HP9 := Lib.hid (HPU.out.read hon hr2)
                  rw [← HNX.out] at HP9
                  go_roundw
                  case rel => exact ⟨j + 1, _, congrArg (Value.int .i64) E1.out, HJC.out, by have := HZS.out; have := HZE.out; omega, by rw [HTN.out, HZE.out]; rfl, by rw [show i + (j + 1) = z + 1 by rw [HZE.out]; rfl]; exact HP9.out⟩
                  case measure => exact meas E1.out (by have := HJC.out; omega)
                exact Rt.AllC.nil
              exact Rt.AllC.nil
            exact Rt.AllC.nil
          · have hdi : ((st : Nat) : Int) ≤ ((d : Nat) : Int) := by omega
            have HBD : Hid (tabO s.data.toList st i cnt = some z) := Lib.hid (by rw [HTC.out, ← HX.out, if_neg (by omega)])
            clear h48 hds hd hx256
            have hwd := HWD.out
            have hwd' := wr_same hwd
            go_upto_region 27 with fail
            go_big_quiet (fail)
            generalize hw2 : World.drewN wr _ = w2 at *
            have hon : Only b wr w2 := by rw [← hw2]; exact only_drewN (Only.refl _ _) _
            have HR2 := Lib.hid (show Row w2 b 62 (rdr s z) by rw [← hw2]; exact HT.out.r.drewN _)
            have HT := Lib.hid (HT.out.read hon HR2.out)
            clear hon hw2 f0 f1
            clear f3 HR2
            have f0 := HT.out.r.cell 0
            have f1 := HT.out.r.cell 1
            have f3 := HT.out.q.cell 3
            unfold rdr at f0 f1
            unfold rbox at f3
            dsimp only [List.getElem?_cons_succ, List.getElem?_cons_zero] at f0 f1 f3
            go_wp2_with fail
            refine (fail_any _ z w2).mono ?_
            rintro e3 w3 ⟨rfl, rfl⟩
            go_wp2_with fail
            exact hbad _ _ z rfl HBD.out HT.out.bl
      · have hzi : ((z : Int) == (s.size : Int)) = true := by rw [beq_iff_eq]; omega
        have HBD : Hid (tabO s.data.toList st i cnt = some z) := Lib.hid (by rw [HTC.out, if_neg (fun h => hzs (by have := h.1; rw [← Lib.size_eq] at this; exact this))])
        clear hzs
        go_upto_region 27 with fail
        go_big_quiet (fail)
        generalize hw2 : World.drewN wr _ = w2 at *
        have hon : Only b wr w2 := by rw [← hw2]; exact only_drewN (Only.refl _ _) _
        have HR2 := Lib.hid (show Row w2 b 62 (rdr s z) by rw [← hw2]; exact HT.out.r.drewN _)
        have HT := Lib.hid (HT.out.read hon HR2.out)
        clear hon hw2 f0 f1
        clear f3 HR2
        have f0 := HT.out.r.cell 0
        have f1 := HT.out.r.cell 1
        have f3 := HT.out.q.cell 3
        unfold rdr at f0 f1
        unfold rbox at f3
        dsimp only [List.getElem?_cons_succ, List.getElem?_cons_zero] at f0 f1 f3
        go_wp2_with fail
        refine (fail_any _ z w2).mono ?_
        rintro e3 w3 ⟨rfl, rfl⟩
        go_wp2_with fail
        exact hbad _ _ z rfl HBD.out HT.out.bl
    · obtain rfl : j = cnt := by omega
      have hji : ¬ (j : Int) < (j : Int) := by omega
      have HNONE : Hid (tabO s.data.toList st i j = none) := Lib.hid (by rw [HTB.out, Nat.sub_self]; rfl)
      clear hjc hj
      go_wp2_with fail
      rw [HZE.out] at HT HZL
      exact hnext HNONE.out HZL.out ⟨vs, HT.out⟩
end Pr
end Go.Proofs.YtgagophijmiceaaDoor
