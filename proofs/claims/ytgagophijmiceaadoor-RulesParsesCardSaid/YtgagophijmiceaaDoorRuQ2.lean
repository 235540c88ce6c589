/- WALK: edenref1.Parse: digits, letters. -/
import Derived.Test.YtgagophijmiceaaDoorRuQ
import Derived.Test.YtgagophijmiceaaDoorRuRl
namespace Go.Proofs.YtgagophijmiceaaDoor
set_option linter.unusedSimpArgs false
set_option linter.unusedVariables false
open Go.RowKit
namespace Pr
open Tld Mem Bl Pn Pw Rd

theorem results_rule3 {fn : Func} {t u v : Tmp} (hr : fn.results = #[.cell t 24, .tmp u, .tmp v]) (tmps : Array Value) (w : World) {q : Nat} {V : List Value} {e f : Value} (h : Row w q 24 V) (hV : V.length = 7) (h8 : tmps.getD t undef = .pointer (some ⟨q, 0, none⟩)) (h9 : tmps.getD u undef = e) (h10 : tmps.getD v undef = f) :
    (results fn tmps).run Tryd.prog w = .ok (.tuple #[.agg V.toArray, e, f]) w := by
  have hl := run_loadVar_row (P := Tryd.prog) w q 24 24 V.toArray (0, 0) _ h Tryd.underlying24 rfl (by rw [List.size_toArray, hV]; exact infoRul)
  have h8' : tmps[t]?.getD undef = .pointer (some ⟨q, 0, none⟩) := by simpa using h8
  have h9' : tmps[u]?.getD undef = e := by simpa using h9
  have h10' : tmps[v]?.getD undef = f := by simpa using h10
  simp [results, hr, h8', h9', h10', asAddr, hl]
set_option maxHeartbeats 8000000 in
set_option maxRecDepth 1000000 in
theorem rq_tab (w0 w : World) (s : ByteArray) (ob rb nb i cnt st : Nat) (K Bo S ra : Int) (tu : ByteArray) (vs0 : Value) (hs : s.size ≤ 9223372036854775807) (hi : i ≤ s.size) (hc : cnt ≤ 1024) (hst : st ≤ 4) (hT : QSt w0 w ob rb nb K Bo S (st : Nat) ra tu ([]) vs0)
    (c1 c3 c4 c7 c8 c9 c10 c11 c12 c13 c15 c16 c20 c21 c22 c23 c24 c25 c26 c27 c28 c29 c30 c31 c32 c33 c34 c35 c36 c37 c38 c39 c40 c41 c42 c43 c44 c45 c46 c47 c48 c49 c50 c51 c52 c53 c54 c55 c56 c57 c58 c59 c60 c61 c62 c63 c64 c65 c66 c67 c68 c69 c70 c71 c72 c73 c74 c75 c76 c77 c78 c79 c80 c81 c82 c83 c84 c85 c86 c87 c88 c89 c90 c91 c92 c93 c94 c95 c96 c97 c98 c99 c100 c101 c102 c103 c104 c105 c106 c107 c108 c109 c110 c111 c112 c113 c114 c115 c116 c117 c118 c119 c120 c121 c122 c123 c124 c125 c126 c127 c128 c129 c130 c131 c132 c133 c134 c135 c136 c137 c138 c139 c140 c141 c142 c143 c144 c145 c146 c147 c148 c149 c150 c151 c152 c153 c154 c155 c156 c157 c158 c159 c160 c161 c162 c163 c164 c165 c166 c167 c168 c169 c170 c171 c172 c173 c174 c175 c176 c177 c178 c179 c180 c181 c182 c183 c184 c185 c186 c187 c188 c189 c190 c191 c192 c193 c194 c195 c196 c197 c198 c199 c200 c201 c202 c203 c204 c205 c206 c207 c208 c209 c210 c211 c212 c213 c214 c215 c216 c217 c218 c219 c220 c221 c222 c223 c224 c225 c226 c227 c228 c229 c230 c231 c232 c233 c234 c235 c236 c237 c238 c239 c240 c241 c242 c243 c244 c245 c246 c247 c248 c249 c250 c251 c252 c253 c254 c255 c256 c257 c258 c259 c260 c261 c262 c263 c264 c265 c266 c267 c268 c269 c270 c271 c272 c273 c274 c275 c276 c277 c278 c279 c280 c281 c282 c283 c284 c285 c286 c287 c288 c289 c290 c291 c292 c293 c294 c295 : Value) (Q : Exit → Act → World → Prop)
    (hnext : ∀ {u3 u4 u198 u199 u200 u201 u202 u203 u204 u205 u206 u207 u208 u209 u210 u211 u212 u213 u214 u215 u216 u217 u218 u219 u220 u221 u222 u223 u224 u225 u226 u227 u228 u229 u230 u231 u232 u233 u234 u235 : Value} {w' : World}, tabO s.data.toList st i cnt = none → i + cnt ≤ s.size → QStE w0 w' ob rb nb K Bo S (st : Nat) ra tu (digL s.data.toList i cnt) → Q .normal ⟨#[.string s, c1, .pointer (some ⟨rb, 0, none⟩), u3, u4, .pointer (some ⟨ob, 0, none⟩), .pointer (some ⟨nb, 0, none⟩), c7, c8, c9, c10, c11, c12, c13, .int .i64 ((st : Nat) : Int), c15, c16, .int .i64 ((i + cnt : Nat) : Int), .int .i64 ((cnt : Nat) : Int), .int .i64 ((cnt : Nat) : Int), c20, c21, c22, c23, c24, c25, c26, c27, c28, c29, c30, c31, c32, c33, c34, c35, c36, c37, c38, c39, c40, c41, c42, c43, c44, c45, c46, c47, c48, c49, c50, c51, c52, c53, c54, c55, c56, c57, c58, c59, c60, c61, c62, c63, c64, c65, c66, c67, c68, c69, c70, c71, c72, c73, c74, c75, c76, c77, c78, c79, c80, c81, c82, c83, c84, c85, c86, c87, c88, c89, c90, c91, c92, c93, c94, c95, c96, c97, c98, c99, c100, c101, c102, c103, c104, c105, c106, c107, c108, c109, c110, c111, c112, c113, c114, c115, c116, c117, c118, c119, c120, c121, c122, c123, c124, c125, c126, c127, c128, c129, c130, c131, c132, c133, c134, c135, c136, c137, c138, c139, c140, c141, c142, c143, c144, c145, c146, c147, c148, c149, c150, c151, c152, c153, c154, c155, c156, c157, c158, c159, c160, c161, c162, c163, c164, c165, c166, c167, c168, c169, c170, c171, c172, c173, c174, c175, c176, c177, c178, c179, c180, c181, c182, c183, c184, c185, c186, c187, c188, c189, c190, c191, c192, c193, c194, c195, c196, c197, u198, u199, u200, u201, u202, u203, u204, u205, u206, u207, u208, u209, u210, u211, u212, u213, u214, u215, u216, u217, u218, u219, u220, u221, u222, u223, u224, u225, u226, u227, u228, u229, u230, u231, u232, u233, u234, u235, c236, c237, c238, c239, c240, c241, c242, c243, c244, c245, c246, c247, c248, c249, c250, c251, c252, c253, c254, c255, c256, c257, c258, c259, c260, c261, c262, c263, c264, c265, c266, c267, c268, c269, c270, c271, c272, c273, c274, c275, c276, c277, c278, c279, c280, c281, c282, c283, c284, c285, c286, c287, c288, c289, c290, c291, c292, c293, c294, c295], []⟩ w')
    (hret : ∀ (a' : Act) (w' : World) (v : Value) (p : Nat), (results Tryd.f8 a'.tmps).run Tryd.prog w' = .ok v w' → a'.defers = [] → v = .tuple #[.agg #[.int .i64 0, .int .i64 0, .int .i64 0, .int .i64 0, .int .i64 0, .slice none 0 0, .string ⟨#[]⟩], .int .i64 ((p : Nat) : Int), .bool false] → tabO s.data.toList st i cnt = some p → Below w0.heap.size w0 w' → Q .ret a' w')
    : Code.wp Tryd.prog ((Pc.blk 3 (Tryd.f8.body.getD .skip)).getD .skip) Q ⟨#[.string s, c1, .pointer (some ⟨rb, 0, none⟩), c3, c4, .pointer (some ⟨ob, 0, none⟩), .pointer (some ⟨nb, 0, none⟩), c7, c8, c9, c10, c11, c12, c13, .int .i64 ((st : Nat) : Int), c15, c16, .int .i64 ((i : Nat) : Int), .int .i64 ((cnt : Nat) : Int), .int .i64 0, c20, c21, c22, c23, c24, c25, c26, c27, c28, c29, c30, c31, c32, c33, c34, c35, c36, c37, c38, c39, c40, c41, c42, c43, c44, c45, c46, c47, c48, c49, c50, c51, c52, c53, c54, c55, c56, c57, c58, c59, c60, c61, c62, c63, c64, c65, c66, c67, c68, c69, c70, c71, c72, c73, c74, c75, c76, c77, c78, c79, c80, c81, c82, c83, c84, c85, c86, c87, c88, c89, c90, c91, c92, c93, c94, c95, c96, c97, c98, c99, c100, c101, c102, c103, c104, c105, c106, c107, c108, c109, c110, c111, c112, c113, c114, c115, c116, c117, c118, c119, c120, c121, c122, c123, c124, c125, c126, c127, c128, c129, c130, c131, c132, c133, c134, c135, c136, c137, c138, c139, c140, c141, c142, c143, c144, c145, c146, c147, c148, c149, c150, c151, c152, c153, c154, c155, c156, c157, c158, c159, c160, c161, c162, c163, c164, c165, c166, c167, c168, c169, c170, c171, c172, c173, c174, c175, c176, c177, c178, c179, c180, c181, c182, c183, c184, c185, c186, c187, c188, c189, c190, c191, c192, c193, c194, c195, c196, c197, c198, c199, c200, c201, c202, c203, c204, c205, c206, c207, c208, c209, c210, c211, c212, c213, c214, c215, c216, c217, c218, c219, c220, c221, c222, c223, c224, c225, c226, c227, c228, c229, c230, c231, c232, c233, c234, c235, c236, c237, c238, c239, c240, c241, c242, c243, c244, c245, c246, c247, c248, c249, c250, c251, c252, c253, c254, c255, c256, c257, c258, c259, c260, c261, c262, c263, c264, c265, c266, c267, c268, c269, c270, c271, c272, c273, c274, c275, c276, c277, c278, c279, c280, c281, c282, c283, c284, c285, c286, c287, c288, c289, c290, c291, c292, c293, c294, c295], []⟩ w := by
  conv => arg 2; whnf
  have HSZ := Lib.hid hs
  have HC := Lib.hid hc
  have HST := Lib.hid hst
  have HI := Lib.hid hi
  have HT := Lib.hid hT
  clear hs hi hc hst hT
  go_wp2_with fail
  go_loopw [17, 19] (fun u v wx => ∃ (j : Nat) (vs : Value), u = .int .i64 ((i + j : Nat) : Int) ∧ v = .int .i64 ((j : Nat) : Int) ∧ j ≤ cnt ∧ i + j ≤ s.size ∧ tabO s.data.toList st i cnt = tabO s.data.toList st (i + j) (cnt - j) ∧ QSt w0 wx ob rb nb K Bo S (st : Nat) ra tu (digL s.data.toList i j) vs) (fun _ v _ => cnt - (RowKit.intOf v).toNat)
  case atStart => exact ⟨0, vs0, rfl, rfl, Nat.zero_le _, HI.out, rfl, HT.out⟩
  case round =>
    clear HT
    obtain ⟨j, vs, rfl, rfl, hj, hij, htb, ht⟩ := hrel
    obtain ⟨z, hz⟩ : ∃ z, z = i + j := ⟨_, rfl⟩
    rw [← hz] at hij htb ⊢
    have HT := Lib.hid ht
    have HZE := Lib.hid hz
    have HTB := Lib.hid htb
    have HIJ := Lib.hid hij
    clear ht hz htb
    by_cases hjc : j < cnt
    · have hjl : (j : Int) < (cnt : Int) := by omega
      have HJC : Hid (j + 1 ≤ cnt) := Lib.hid hjc
      by_cases hzs : z < s.size
      · have hzi : ¬ (s.size : Int) ≤ (z : Int) := by omega
        have hg := get_drop s hzs
        have HZS := Lib.hid hzs
        obtain ⟨x, hx⟩ : ∃ x, x = s.data.toList.getD z 0 := ⟨_, rfl⟩
        rw [← hx] at hg
        have HX := Lib.hid hx
        clear hx
        by_cases hx48 : x.toNat < 48
        · have hxl : (x.toNat : Int) < 48 := by omega
          have HBD : Hid (tabO s.data.toList st i cnt = some z) := Lib.hid (by rw [HTB.out, show cnt - j = (cnt - (j + 1)) + 1 by omega, tabO, if_neg (by rw [← HX.out]; omega)])
          clear hx48 hij hj hjc
          have l5 := row_range HT.out.z
          have hr5 := HT.out.r
          go_wp2_with (first | (refine wpList_load_mid rfl 24 _ rfl nb 0 rfl _ _ l5 Tryd.underlying24 rfl infoRul ?_) | (refine Ops.wpList_store_arr rfl 24 _ _ rfl rb rfl 24 _ (rbox 0 0 0 0 0 (.slice none 0 0) ⟨#[]⟩) rfl hr5 rfl infoRul (rbox_one _ _ _ _ _ _ _ _ _) ?_; intro w5 hr9 ho9))
          exact hret _ _ _ z (results_rule3 (t := 2) (u := 3) (v := 4) (e := .int .i64 ((z : Nat))) (f := .bool false) rfl _ _ hr9 rfl rfl rfl rfl) rfl rfl HBD.out (HT.out.bl.trans (ho9.below HT.out.ne.2.1))
        · have hxl : ¬ (x.toNat : Int) < 48 := by omega
          obtain ⟨d, hd⟩ : ∃ d, d = x.toNat - 48 := ⟨_, rfl⟩
          have hwd : wrap64 ((d : Nat) : Int) = ((d : Nat) : Int) := wr48b rfl (by have := UInt8.toNat_lt x; omega)
          have HDE : Hid (((d : Nat) : Int) = (x.toNat : Int) - 48) := Lib.hid (by omega)
          have hwd' : (x.toNat : Int) - 48 = ((d : Nat) : Int) := by omega
          have hw0 : wrap64 (x.toNat : Int) = (x.toNat : Int) := wr48b rfl (by have := UInt8.toNat_lt x; omega)
          by_cases hdst : d < st
          · have hdi : ¬ (st : Int) ≤ (d : Int) := by omega
            have HTN : Hid (tabO s.data.toList st i cnt = tabO s.data.toList st (z + 1) (cnt - (j + 1))) := Lib.hid (by rw [HTB.out, show cnt - j = (cnt - (j + 1)) + 1 by omega, tabO, if_pos (by rw [← HX.out, ← Lib.size_eq]; omega)])
            have HNX : Hid (digL s.data.toList i (j + 1) = digL s.data.toList i j ++ [((d : Nat) : Int)]) := Lib.hid (by rw [digL_succ, ← HZE.out, ← HX.out, HDE.out])
            have HLN : Hid ((digL s.data.toList i j).length = j) := Lib.hid (digL_len _ _ _)
            have HK2 : Hid (j ≤ 1000000) := Lib.hid (by have := HC.out; omega)
            have E1 : Hid (wrap64 ((j : Int) + 1) = ((j + 1 : Nat) : Int)) := Lib.hid (wr48b (by push_cast; rfl) (by have := HC.out; omega))
            have E2 : Hid (wrap64 ((z : Int) + 1) = ((z + 1 : Nat) : Int)) := Lib.hid (wr48b (by push_cast; rfl) (by have := HSZ.out; have := HZS.out; omega))
            clear hx48 hij hj hjc hd hdst
            go_upto_region 58 with fail
            have HW6 : Hid (IntKind.i64.wrap (IntKind.i64.wrap (x.toNat : Int) - 48) = ((d : Nat) : Int)) := Lib.hid (by have h1 := UInt8.toNat_lt x; have h2 := HDE.out; rw [IntKind.wrap_i64, IntKind.wrap_i64]; clear hw0 hwd; omega)
            clear hw0 hwd hwd'
            have HTd := Lib.hid HT.out.drew
            clear HT
            refine wp_region_noPanic ?_
            refine Rt.region_Cn (Sc2 (fun w2 => True) (fun w2 => w2.cell? ⟨ob, 5, none⟩ = some vs) 10) 11 #[false, false, false, false, false, false, false, false, false, false, false] (by kernel_rfl) (by kernel_rfl) (by kernel_rfl) ?_
            have hS1 : ∀ o, Sc2 (fun w2 => True) (fun w2 => w2.cell? ⟨ob, 5, none⟩ = some vs) 10 o wr.drew := Sc2.of trivial (HTd.out.q.cell 5)
            refine Rt.C_take (none) (i := 0) (oi := _) (v := ?_) rfl (by kernel_rfl) (by kernel_rfl) (by kernel_rfl) (by kernel_rfl) (fun _ _ _ h => h) (Sc2.other (by decide)) (Or.inl ⟨by rfl, ?_⟩) (fun o' _ => hS1 o') ?_
            rotate_left
            · intro w2 hSw
              
              go_simp
              try with_reducible rfl
            simp only [Act.put, List.getElem_toArray, List.getElem_cons_succ, List.getElem_cons_zero, List.setIfInBounds_toArray, List.set_cons_zero, List.set_cons_succ]
            refine Rt.C_take (some 10) (i := 1) (oi := _) (v := ?_) rfl (by kernel_rfl) (by kernel_rfl) (by kernel_rfl) (by kernel_rfl) (fun _ _ _ h => h) (Sc2.other (by decide)) (Or.inl ⟨by rfl, ?_⟩) (fun o' _ => hS1 o') ?_
            rotate_left
            · intro w2 hSw
              have s0 := hSw rfl
              go_simp
              try with_reducible rfl
            simp only [Act.put, List.getElem_toArray, List.getElem_cons_succ, List.getElem_cons_zero, List.setIfInBounds_toArray, List.set_cons_zero, List.set_cons_succ]
            refine Rt.C_take (none) (i := 2) (oi := _) (v := ?_) rfl (by kernel_rfl) (by kernel_rfl) (by kernel_rfl) (by kernel_rfl) (fun _ _ _ h => h) (Sc2.other (by decide)) (Or.inl ⟨by rfl, ?_⟩) (fun o' _ => hS1 o') ?_
            rotate_left
            · intro w2 hSw
              
              go_simp
              try with_reducible rfl
            simp only [Act.put, List.getElem_toArray, List.getElem_cons_succ, List.getElem_cons_zero, List.setIfInBounds_toArray, List.set_cons_zero, List.set_cons_succ]
            refine Rt.C_take (none) (i := 3) (oi := _) (v := ?_) rfl (by kernel_rfl) (by kernel_rfl) (by kernel_rfl) (by kernel_rfl) (fun _ _ _ h => h) (Sc2.other (by decide)) (Or.inl ⟨by rfl, ?_⟩) (fun o' _ => hS1 o') ?_
            rotate_left
            · intro w2 hSw
              
              go_simp
              try with_reducible rfl
            simp only [Act.put, List.getElem_toArray, List.getElem_cons_succ, List.getElem_cons_zero, List.setIfInBounds_toArray, List.set_cons_zero, List.set_cons_succ]
            refine Rt.C_take (none) (i := 4) (oi := _) (v := ?_) rfl (by kernel_rfl) (by kernel_rfl) (by kernel_rfl) (by kernel_rfl) (fun _ _ _ h => h) (Sc2.other (by decide)) (Or.inl ⟨by rfl, ?_⟩) (fun o' _ => hS1 o') ?_
            rotate_left
            · intro w2 hSw
              
              go_simp
              try with_reducible rfl
            simp only [Act.put, List.getElem_toArray, List.getElem_cons_succ, List.getElem_cons_zero, List.setIfInBounds_toArray, List.set_cons_zero, List.set_cons_succ]
            refine Rt.C_take (none) (i := 5) (oi := _) (v := ?_) rfl (by kernel_rfl) (by kernel_rfl) (by kernel_rfl) (by kernel_rfl) (fun _ _ _ h => h) (Sc2.other (by decide)) (Or.inl ⟨by rfl, ?_⟩) (fun o' _ => hS1 o') ?_
            rotate_left
            · intro w2 hSw
              
              go_simp
              try with_reducible rfl
            simp only [Act.put, List.getElem_toArray, List.getElem_cons_succ, List.getElem_cons_zero, List.setIfInBounds_toArray, List.set_cons_zero, List.set_cons_succ]
            refine Rt.C_take (none) (i := 6) (oi := _) (v := (.int .i64 ((d : Nat) : Int))) rfl (by kernel_rfl) (by kernel_rfl) (by kernel_rfl) (by kernel_rfl) (fun _ _ _ h => h) (Sc2.other (by decide)) (Or.inl ⟨by rfl, ?_⟩) (fun o' _ => hS1 o') ?_
            · intro w2 hSw
              
              go_simp
              exact HW6.out
            simp only [Act.put, List.getElem_toArray, List.getElem_cons_succ, List.getElem_cons_zero, List.setIfInBounds_toArray, List.set_cons_zero, List.set_cons_succ]
            clear hS1
            refine Rt.C_ready (rs := [7]) (by kernel_rfl) (by simp) ?_
            refine Rt.AllC.cons (i := 7) (o := _) rfl (by rfl) (fun K' hK => ?_) ?_
            · skip
              have hnew := row_alloc wr.drew 3 [.int .i64 ((d : Nat) : Int)]
              have hbn : Below wr.drew.heap.size wr.drew (wr.drew.alloc (.cells [.int .i64 ((d : Nat) : Int)].toArray 3)) := (Below.refl _ _).alloc (Nat.le_refl _) _
              have HTa := Lib.hid (HTd.out.keep hbn)
              have HCEL := Lib.hid (hnew.cell 0)
              clear hnew hbn HTd
              go_simp
              refine hK _ _ (fun o _ => Sc2.of trivial (HTa.out.q.cell 5) o) ?_
              clear hK K'
              simp only [Act.put, List.getElem_toArray, List.getElem_cons_succ, List.getElem_cons_zero, List.setIfInBounds_toArray, List.set_cons_zero, List.set_cons_succ]
              refine Rt.C_ready (rs := [8]) (by kernel_rfl) (by simp) ?_
              refine Rt.AllC.cons (i := 8) (o := _) rfl (by rfl) (fun K' hK => ?_) ?_
              · skip
                refine wp_app_ints _ _ rfl w0.heap.size vs (j) (digL s.data.toList i j) (by rfl) (by have h := HTa.out.o; rw [HLN.out] at h; exact h) wr.drew.heap.size 0 1 1 [((d : Nat) : Int)] (by rfl) rfl ?c1 HK2.out (by decide) (by decide) HTa.out.sz ?_
                case c1 =>
                  intro j' hj'
                  obtain rfl : j' = 0 := by omega
                  exact HCEL.out
                intro g7 c7 w7 ho7 hg7
                rw [List.map_append] at ho7
                have HPU := Lib.hid (HTa.out.push (x := ((d : Nat) : Int)) hg7 (by rw [HLN.out]; exact ho7))
                have HM7 := Lib.hid (HTa.out.after hg7)
                clear ho7 hg7 HTa HCEL
                refine hK _ _ (fun o _ => Sc2.of trivial (HM7.out.1.cell 5) o) ?_
                clear hK K'
                simp only [Act.put, List.getElem_toArray, List.getElem_cons_succ, List.getElem_cons_zero, List.setIfInBounds_toArray, List.set_cons_zero, List.set_cons_succ]
                refine Rt.C_take (none) (i := 9) (oi := _) (v := ?_) rfl (by kernel_rfl) (by kernel_rfl) (by kernel_rfl) (by kernel_rfl) (fun _ _ _ h => h) (Sc2.other (by decide)) (Or.inl ⟨by rfl, ?_⟩) (fun o _ => Sc2.of trivial (HM7.out.1.cell 5) o) ?_
                rotate_left
                · intro w2 hSw
                  
                  go_simp
                  try with_reducible rfl
                simp only [Act.put, List.getElem_toArray, List.getElem_cons_succ, List.getElem_cons_zero, List.setIfInBounds_toArray, List.set_cons_zero, List.set_cons_succ]
                refine Rt.C_ready (rs := [10]) (by kernel_rfl) (by simp) ?_
                refine Rt.AllC.cons (i := 10) (o := _) rfl (by rfl) (fun K' hK => ?_) ?_
                · skip
                  have c2 := HM7.out.1.cell 5
                  have z2 := HM7.out.1.frozen 5
                  unfold rbox at c2
                  dsimp only [List.getElem?_cons_succ, List.getElem?_cons_zero] at c2
                  go_simp
                  refine hK _ _ (fun o hl => Sc2.late trivial (by rfl) o hl) ?_
                  clear hK K'
                  simp only [Act.put, List.getElem_toArray, List.getElem_cons_succ, List.getElem_cons_zero, List.setIfInBounds_toArray, List.set_cons_zero, List.set_cons_succ]
                  refine Rt.C_done (by kernel_rfl) ?_ _
                  refine NoPanic.normal ?_
                  clear c2 z2 HM7 hg hdi hxl hzi
                  generalize w7.setCell ⟨ob, 5, none⟩ (.slice (some ⟨g7, 0, none⟩) (j + 1) c7) = w9 at *
                  have HM : Hid (cnt - (j + 1) < cnt - j ∧ i + (j + 1) ≤ s.size) := Lib.hid (by have := HJC.out; have := HZS.out; have := HZE.out; omega)
                  go_wp2_with fail
                  go_roundw
                  case rel => exact ⟨j + 1, _, (congrArg (Value.int .i64) E2.out).trans (by rw [HZE.out]; rfl), congrArg (Value.int .i64) E1.out, HJC.out, HM.out.2, by rw [HTN.out, HZE.out]; rfl, by rw [HNX.out]; exact HPU.out⟩
                  case measure => exact measw E1.out HM.out.1
                exact Rt.AllC.nil
              exact Rt.AllC.nil
            exact Rt.AllC.nil
          · have hdi : (st : Int) ≤ (d : Int) := by omega
            have HBD : Hid (tabO s.data.toList st i cnt = some z) := Lib.hid (by rw [HTB.out, show cnt - j = (cnt - (j + 1)) + 1 by omega, tabO, if_neg (by rw [← HX.out]; omega)])
            clear hx48 hij hj hjc hd hdst
            have l5 := row_range HT.out.z
            have hr5 := HT.out.r
            go_wp2_with (first | (refine wpList_load_mid rfl 24 _ rfl nb 0 rfl _ _ l5 Tryd.underlying24 rfl infoRul ?_) | (refine Ops.wpList_store_arr rfl 24 _ _ rfl rb rfl 24 _ (rbox 0 0 0 0 0 (.slice none 0 0) ⟨#[]⟩) rfl hr5 rfl infoRul (rbox_one _ _ _ _ _ _ _ _ _) ?_; intro w5 hr9 ho9))
            exact hret _ _ _ z (results_rule3 (t := 2) (u := 3) (v := 4) (e := .int .i64 ((z : Nat))) (f := .bool false) rfl _ _ hr9 rfl rfl rfl rfl) rfl rfl HBD.out (HT.out.bl.trans (ho9.below HT.out.ne.2.1))
      · have hzi : (s.size : Int) ≤ (z : Int) := by omega
        have HBD : Hid (tabO s.data.toList st i cnt = some z) := Lib.hid (by rw [HTB.out, show cnt - j = (cnt - (j + 1)) + 1 by omega, tabO, if_neg (by rw [← Lib.size_eq]; omega)])
        clear hij hj hjc hzs
        have l5 := row_range HT.out.z
        have hr5 := HT.out.r
        go_wp2_with (first | (refine wpList_load_mid rfl 24 _ rfl nb 0 rfl _ _ l5 Tryd.underlying24 rfl infoRul ?_) | (refine Ops.wpList_store_arr rfl 24 _ _ rfl rb rfl 24 _ (rbox 0 0 0 0 0 (.slice none 0 0) ⟨#[]⟩) rfl hr5 rfl infoRul (rbox_one _ _ _ _ _ _ _ _ _) ?_; intro w5 hr9 ho9))
        exact hret _ _ _ z (results_rule3 (t := 2) (u := 3) (v := 4) (e := .int .i64 ((z : Nat))) (f := .bool false) rfl _ _ hr9 rfl rfl rfl rfl) rfl rfl HBD.out (HT.out.bl.trans (ho9.below HT.out.ne.2.1))
    · obtain rfl : j = cnt := by omega
      have hjl : ¬ (j : Int) < (j : Int) := by omega
      have HNO : Hid (tabO s.data.toList st i j = none) := Lib.hid (by rw [HTB.out, Nat.sub_self]; rfl)
      clear hjc hj hij
      go_wp2_with fail
      obtain rfl := HZE.out
      exact hnext HNO.out HIJ.out ⟨vs, HT.out⟩
set_option maxHeartbeats 8000000 in
set_option maxRecDepth 1000000 in
theorem rq_lr (w : World) (s : ByteArray) (i : Nat) (hs : s.size ≤ 9223372036854775807) (hi : i ≤ s.size)
    (c1 c2 c3 c4 c5 c6 c8 c9 c10 c11 c12 c13 c14 c15 c16 c17 c18 c19 c21 c22 c23 c24 c25 c26 c27 c28 c29 c30 c31 c32 c33 c34 c35 c36 c37 c38 c39 c40 c41 c42 c43 c44 c45 c46 c47 c48 c49 c50 c51 c52 c53 c54 c55 c56 c57 c58 c59 c60 c61 c62 c63 c64 c65 c66 c67 c68 c69 c70 c71 c72 c73 c74 c75 c76 c77 c78 c79 c80 c81 c82 c83 c84 c85 c86 c87 c88 c89 c90 c91 c92 c93 c94 c95 c96 c97 c98 c99 c100 c101 c102 c103 c104 c105 c106 c107 c108 c109 c110 c111 c112 c113 c114 c115 c116 c117 c118 c119 c120 c121 c122 c123 c124 c125 c126 c127 c128 c129 c130 c131 c132 c133 c134 c135 c136 c137 c138 c139 c140 c141 c142 c143 c144 c145 c146 c147 c148 c149 c150 c151 c152 c153 c154 c155 c156 c157 c158 c159 c160 c161 c162 c163 c164 c165 c166 c167 c168 c169 c170 c171 c172 c173 c174 c175 c176 c177 c178 c179 c180 c181 c182 c183 c184 c185 c186 c187 c188 c189 c190 c191 c192 c193 c194 c195 c196 c197 c198 c199 c200 c201 c202 c203 c204 c205 c206 c207 c208 c209 c210 c211 c212 c213 c214 c215 c216 c217 c218 c219 c220 c221 c222 c223 c224 c225 c226 c227 c228 c229 c230 c231 c232 c233 c234 c235 c236 c237 c238 c239 c240 c241 c242 c243 c244 c245 c246 c247 c248 c249 c250 c251 c252 c253 c254 c255 c256 c257 c258 c259 c260 c261 c262 c263 c264 c265 c266 c267 c268 c269 c270 c271 c272 c273 c274 c275 c276 c277 c278 c279 c280 c281 c282 c283 c284 c285 c286 c287 c288 c289 c290 c291 c292 c293 c294 c295 : Value) (Q : Exit → Act → World → Prop)
    (hnext : ∀ {u254 u255 u256 u257 u258 u259 u260 u261 u262 u263 u264 u265 u266 u267 u268 u269 u270 u271 u272 u273 u274 u275 u276 u277 : Value} {w' : World}, w' = w → Q .normal ⟨#[.string s, c1, c2, c3, c4, c5, c6, .int .i64 ((i + lrs s.data.toList i 26 : Nat) : Int), c8, c9, c10, c11, c12, c13, c14, c15, c16, c17, c18, c19, .int .i64 ((i : Nat) : Int), c21, c22, c23, c24, c25, c26, c27, c28, c29, c30, c31, c32, c33, c34, c35, c36, c37, c38, c39, c40, c41, c42, c43, c44, c45, c46, c47, c48, c49, c50, c51, c52, c53, c54, c55, c56, c57, c58, c59, c60, c61, c62, c63, c64, c65, c66, c67, c68, c69, c70, c71, c72, c73, c74, c75, c76, c77, c78, c79, c80, c81, c82, c83, c84, c85, c86, c87, c88, c89, c90, c91, c92, c93, c94, c95, c96, c97, c98, c99, c100, c101, c102, c103, c104, c105, c106, c107, c108, c109, c110, c111, c112, c113, c114, c115, c116, c117, c118, c119, c120, c121, c122, c123, c124, c125, c126, c127, c128, c129, c130, c131, c132, c133, c134, c135, c136, c137, c138, c139, c140, c141, c142, c143, c144, c145, c146, c147, c148, c149, c150, c151, c152, c153, c154, c155, c156, c157, c158, c159, c160, c161, c162, c163, c164, c165, c166, c167, c168, c169, c170, c171, c172, c173, c174, c175, c176, c177, c178, c179, c180, c181, c182, c183, c184, c185, c186, c187, c188, c189, c190, c191, c192, c193, c194, c195, c196, c197, c198, c199, c200, c201, c202, c203, c204, c205, c206, c207, c208, c209, c210, c211, c212, c213, c214, c215, c216, c217, c218, c219, c220, c221, c222, c223, c224, c225, c226, c227, c228, c229, c230, c231, c232, c233, c234, c235, c236, c237, c238, c239, c240, c241, c242, c243, c244, c245, c246, c247, c248, c249, c250, c251, c252, c253, u254, u255, u256, u257, u258, u259, u260, u261, u262, u263, u264, u265, u266, u267, u268, u269, u270, u271, u272, u273, u274, u275, u276, u277, c278, c279, c280, c281, c282, c283, c284, c285, c286, c287, c288, c289, c290, c291, c292, c293, c294, c295], []⟩ w')
    : Code.wp Tryd.prog ((Pc.blk 5 (Tryd.f8.body.getD .skip)).getD .skip) Q ⟨#[.string s, c1, c2, c3, c4, c5, c6, .int .i64 ((i : Nat) : Int), c8, c9, c10, c11, c12, c13, c14, c15, c16, c17, c18, c19, .int .i64 ((i : Nat) : Int), c21, c22, c23, c24, c25, c26, c27, c28, c29, c30, c31, c32, c33, c34, c35, c36, c37, c38, c39, c40, c41, c42, c43, c44, c45, c46, c47, c48, c49, c50, c51, c52, c53, c54, c55, c56, c57, c58, c59, c60, c61, c62, c63, c64, c65, c66, c67, c68, c69, c70, c71, c72, c73, c74, c75, c76, c77, c78, c79, c80, c81, c82, c83, c84, c85, c86, c87, c88, c89, c90, c91, c92, c93, c94, c95, c96, c97, c98, c99, c100, c101, c102, c103, c104, c105, c106, c107, c108, c109, c110, c111, c112, c113, c114, c115, c116, c117, c118, c119, c120, c121, c122, c123, c124, c125, c126, c127, c128, c129, c130, c131, c132, c133, c134, c135, c136, c137, c138, c139, c140, c141, c142, c143, c144, c145, c146, c147, c148, c149, c150, c151, c152, c153, c154, c155, c156, c157, c158, c159, c160, c161, c162, c163, c164, c165, c166, c167, c168, c169, c170, c171, c172, c173, c174, c175, c176, c177, c178, c179, c180, c181, c182, c183, c184, c185, c186, c187, c188, c189, c190, c191, c192, c193, c194, c195, c196, c197, c198, c199, c200, c201, c202, c203, c204, c205, c206, c207, c208, c209, c210, c211, c212, c213, c214, c215, c216, c217, c218, c219, c220, c221, c222, c223, c224, c225, c226, c227, c228, c229, c230, c231, c232, c233, c234, c235, c236, c237, c238, c239, c240, c241, c242, c243, c244, c245, c246, c247, c248, c249, c250, c251, c252, c253, c254, c255, c256, c257, c258, c259, c260, c261, c262, c263, c264, c265, c266, c267, c268, c269, c270, c271, c272, c273, c274, c275, c276, c277, c278, c279, c280, c281, c282, c283, c284, c285, c286, c287, c288, c289, c290, c291, c292, c293, c294, c295], []⟩ w := by
  conv => arg 2; whnf
  have HSZ := Lib.hid hs
  have HI := Lib.hid hi
  clear hs hi
  have hnext' : ∀ {u254 u255 u256 u257 u258 u259 u260 u261 u262 u263 u264 u265 u266 u267 u268 u269 u270 u271 u272 u273 u274 u275 u276 u277 : Value} {j : Nat}, i + lrs s.data.toList i 26 = i + j → Q .normal ⟨#[.string s, c1, c2, c3, c4, c5, c6, .int .i64 ((i + j : Nat) : Int), c8, c9, c10, c11, c12, c13, c14, c15, c16, c17, c18, c19, .int .i64 ((i : Nat) : Int), c21, c22, c23, c24, c25, c26, c27, c28, c29, c30, c31, c32, c33, c34, c35, c36, c37, c38, c39, c40, c41, c42, c43, c44, c45, c46, c47, c48, c49, c50, c51, c52, c53, c54, c55, c56, c57, c58, c59, c60, c61, c62, c63, c64, c65, c66, c67, c68, c69, c70, c71, c72, c73, c74, c75, c76, c77, c78, c79, c80, c81, c82, c83, c84, c85, c86, c87, c88, c89, c90, c91, c92, c93, c94, c95, c96, c97, c98, c99, c100, c101, c102, c103, c104, c105, c106, c107, c108, c109, c110, c111, c112, c113, c114, c115, c116, c117, c118, c119, c120, c121, c122, c123, c124, c125, c126, c127, c128, c129, c130, c131, c132, c133, c134, c135, c136, c137, c138, c139, c140, c141, c142, c143, c144, c145, c146, c147, c148, c149, c150, c151, c152, c153, c154, c155, c156, c157, c158, c159, c160, c161, c162, c163, c164, c165, c166, c167, c168, c169, c170, c171, c172, c173, c174, c175, c176, c177, c178, c179, c180, c181, c182, c183, c184, c185, c186, c187, c188, c189, c190, c191, c192, c193, c194, c195, c196, c197, c198, c199, c200, c201, c202, c203, c204, c205, c206, c207, c208, c209, c210, c211, c212, c213, c214, c215, c216, c217, c218, c219, c220, c221, c222, c223, c224, c225, c226, c227, c228, c229, c230, c231, c232, c233, c234, c235, c236, c237, c238, c239, c240, c241, c242, c243, c244, c245, c246, c247, c248, c249, c250, c251, c252, c253, u254, u255, u256, u257, u258, u259, u260, u261, u262, u263, u264, u265, u266, u267, u268, u269, u270, u271, u272, u273, u274, u275, u276, u277, c278, c279, c280, c281, c282, c283, c284, c285, c286, c287, c288, c289, c290, c291, c292, c293, c294, c295], []⟩ w := fun e => by rw [← e]; exact hnext rfl
  clear hnext
  go_wp2_with fail
  go_loopw [7] (fun v wx => (∃ j : Nat, v = .int .i64 ((i + j : Nat) : Int) ∧ j ≤ 26 ∧ lrs s.data.toList i 26 = j + lrs s.data.toList (i + j) (26 - j) ∧ i + j ≤ s.size) ∧ w = wx) (fun v _ => s.size + 1 - (RowKit.intOf v).toNat)
  case atStart => exact ⟨⟨0, rfl, Nat.zero_le _, by rw [Nat.zero_add]; rfl, HI.out⟩, rfl⟩
  case round =>
    obtain ⟨⟨j, rfl, hj, hl, hz⟩, rfl⟩ := hrel
    have HLR := Lib.hid hl
    clear hl
    obtain ⟨z, hze⟩ : ∃ z, z = i + j := ⟨_, rfl⟩
    rw [← hze] at hz ⊢
    have HZE := Lib.hid hze
    have HZL := Lib.hid hz
    have W0 : Hid (wrap64 ((z : Int) - (i : Int)) = ((j : Nat) : Int)) := Lib.hid (wr48b (by rw [hze]; push_cast; omega) (by omega))
    by_cases hzs : z < s.size
    · have hji : (z : Int) < (s.size : Int) := by omega
      have hg := get_drop s hzs
      have HZS := Lib.hid hzs
      obtain ⟨x, hx⟩ : ∃ x, x = s.data.toList.getD z 0 := ⟨_, rfl⟩
      rw [← hx] at hg
      have HX := Lib.hid hx
      clear hx hze hz
      by_cases hj26 : j < 26
      · have HJ26 : Hid (j + 1 ≤ 26) := Lib.hid hj26
        have hjj : (j : Int) < 26 := by omega
        clear hj26 hj
        by_cases h76 : x = 76
        · have HLET : Hid (x = 76 ∨ x = 82) := Lib.hid (.inl h76)
          have q76 : ((x.toNat : Int) == 76) = true := byte_eq (k := 76) (by decide) h76
          clear h76
          have HNX : Hid (lrs s.data.toList i 26 = (j + 1) + lrs s.data.toList (i + (j + 1)) (26 - (j + 1))) := Lib.hid (by
            rw [HLR.out, show 26 - j = (26 - (j + 1)) + 1 by have := HJ26.out; omega, lrs_step (by rw [← HZE.out, ← HX.out]; exact ⟨by rw [← Lib.size_eq]; exact HZS.out, HLET.out⟩), show i + (j + 1) = i + j + 1 from rfl]
            omega)
          have E1 : Hid (wrap64 ((z : Int) + 1) = ((z + 1 : Nat) : Int)) := Lib.hid (wr48b (by push_cast; rfl) (by have := HSZ.out; have := HZS.out; omega))
          have HM : Hid (s.size + 1 - (z + 1) < s.size + 1 - z ∧ i + (j + 1) ≤ s.size) := Lib.hid (by have := HZS.out; have := HZE.out; omega)
          have w0 := W0.out
          go_wp2_with fail
          clear w0
          go_roundw
          case rel => exact ⟨⟨j + 1, (congrArg (Value.int .i64) E1.out).trans (by rw [HZE.out]; rfl), HJ26.out, HNX.out, HM.out.2⟩, by first | rfl | trivial⟩
          case measure => exact measw E1.out HM.out.1
        · by_cases h82 : x = 82
          · have HLET : Hid (x = 76 ∨ x = 82) := Lib.hid (.inr h82)
            have q76 : ((x.toNat : Int) == 76) = false := byte_ne (k := 76) (by decide) h76
            have q82 : ((x.toNat : Int) == 82) = true := byte_eq (k := 82) (by decide) h82
            clear h76 h82
            have HNX : Hid (lrs s.data.toList i 26 = (j + 1) + lrs s.data.toList (i + (j + 1)) (26 - (j + 1))) := Lib.hid (by
              rw [HLR.out, show 26 - j = (26 - (j + 1)) + 1 by have := HJ26.out; omega, lrs_step (by rw [← HZE.out, ← HX.out]; exact ⟨by rw [← Lib.size_eq]; exact HZS.out, HLET.out⟩), show i + (j + 1) = i + j + 1 from rfl]
              omega)
            have E1 : Hid (wrap64 ((z : Int) + 1) = ((z + 1 : Nat) : Int)) := Lib.hid (wr48b (by push_cast; rfl) (by have := HSZ.out; have := HZS.out; omega))
            have HM : Hid (s.size + 1 - (z + 1) < s.size + 1 - z ∧ i + (j + 1) ≤ s.size) := Lib.hid (by have := HZS.out; have := HZE.out; omega)
            have w0 := W0.out
            go_wp2_with fail
            clear w0
            go_roundw
            case rel => exact ⟨⟨j + 1, (congrArg (Value.int .i64) E1.out).trans (by rw [HZE.out]; rfl), HJ26.out, HNX.out, HM.out.2⟩, by first | rfl | trivial⟩
            case measure => exact measw E1.out HM.out.1
          · have HFIN : Hid (i + lrs s.data.toList i 26 = i + j) := Lib.hid (by
              rw [HLR.out, lrs_stop (fun h => by rcases h.2 with h | h; exact h76 (by rw [HX.out, HZE.out]; exact h); exact h82 (by rw [HX.out, HZE.out]; exact h))]
              rfl)
            have q76 : ((x.toNat : Int) == 76) = false := byte_ne (k := 76) (by decide) h76
            have q82 : ((x.toNat : Int) == 82) = false := byte_ne (k := 82) (by decide) h82
            clear h76 h82
            have w0 := W0.out
            go_wp2_with fail
            obtain hz := HZE.out
            subst hz
            exact hnext' HFIN.out
      · have hjj : ¬ (j : Int) < 26 := by omega
        have HFIN : Hid (i + lrs s.data.toList i 26 = i + j) := Lib.hid (by rw [HLR.out, show 26 - j = 0 by omega]; rfl)
        clear hj26 hj
        have w0 := W0.out
        go_wp2_with fail
        obtain hz := HZE.out
        subst hz
        exact hnext' HFIN.out
    · have hji : ¬ (z : Int) < (s.size : Int) := by omega
      have HFIN : Hid (i + lrs s.data.toList i 26 = i + j) := Lib.hid (by
        rw [HLR.out, lrs_stop (fun h => by have h1 := h.1; rw [← Lib.size_eq] at h1; omega)]
        rfl)
      clear hzs hze hz hj
      have w0 := W0.out
      go_wp2_with fail
      obtain hz := HZE.out
      subst hz
      exact hnext' HFIN.out
end Pr
end Go.Proofs.YtgagophijmiceaaDoor
