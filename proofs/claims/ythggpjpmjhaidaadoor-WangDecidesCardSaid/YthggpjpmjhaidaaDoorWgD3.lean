/- WALK: wang's search (filler.fill), a round behind its first test. -/
import Derived.Test.YthggpjpmjhaidaaDoorWgD4
import Derived.Test.YthggpjpmjhaidaaDoorWgD5
namespace Go.Proofs.YthggpjpmjhaidaaDoor
set_option linter.unusedSimpArgs false
set_option linter.unusedVariables false
open Go.RowKit Go.Lib
namespace Wg
open Tld Mem

set_option maxHeartbeats 4000000 in
set_option maxRecDepth 1000000 in
theorem dtail (B F M bt ot n tc W H m i x b3 b8 : Nat) (ring : Bool) (ts : List Tl) (tu tr' td tl' : Int) (r : Rm) (pre : List Nat) (ks : List Rm) (w0 w : World)
    (hi : i < n) (hn16 : n ≤ 16) (hwh : W * H ≤ 25) (hW1 : 1 ≤ W) (hW5 : W ≤ 5) (hxW : x < W) (hBF : B ≤ F) (hBM : B ≤ M) (hTB : bt < B) (hpos : r.pos + (m + 1) = W * H) (hF3 : F < b3) (hB3 : B ≤ b3) (h38 : b3 ≠ b8)
    (IH : Hid (IHT B F M bt ot n tc W H ring ts m)) (HT : Hid (Tiles w0 (some ⟨bt, ot, none⟩) n ts)) (HBR : Hid (Below B w0 w)) (HO6 : Hid (Others F w0 w)) (HR6 : Hid (Row w b3 108 (rimL r)))
    (HT6 : Hid (Row w b8 89 [.int .i64 tu, .int .i64 tr', .int .i64 td, .int .i64 tl'])) (HL6 : Hid (Left B F M (some ⟨bt, ot, none⟩) n tc W H ring (fun i => ts.getD i noTile) pre ks (r.pos + 1) w))
    (HXR : Hid (r.x W = x)) (HR : Hid (Fine r)) (HOKT : Hid (Tl.ok ⟨tu, tr', td, tl'⟩ = true)) (HPRE : Hid (pre.length = r.pos)) (HM1 : Hid ((r.over.getD x 0 = -1 ∨ tu = r.over.getD x 0) ∧ (0 < x → tl' = r.left)))
    (c1 c2 c4 c5 c9 c10 c11 c12 c13 c14 c15 c16 c17 c18 c19 c20 c21 c22 c23 c24 c25 c26 c27 c28 c29 c30 c31 c32 c33 c34 c35 c36 c37 c38 c39 c40 c41 c42 c43 c44 c45 c46 c47 c48 c49 c50 c51 c52 c53 c54 c55 c56 c57 c58 c59 c60 c61 c62 c63 c64 c65 c66 c67 c68 c69 c70 c71 c72 c73 c74 c75 c76 c77 c78 c79 c80 c81 c82 c83 c84 c85 c86 c87 c88 c89 c90 c91 c92 c93 c94 c95 c96 c97 c98 c99 c100 c101 c102 c103 c104 c105 c106 c107 c108 c109 c110 c111 c112 c113 c114 c115 c116 c117 c118 c119 c120 c121 c122 c123 c124 c125 c126 c127 c128 c129 c130 c131 c132 c133 c134 c135 c136 c137 c138 c139 c140 c141 c142 c143 c144 c145 c146 c147 c148 c149 c150 c151 c152 c153 c154 c155 c156 c157 c158 c159 c160 c161 c162 c163 c164 c165 c166 c167 c168 c169 c170 : Value) (Q : Exit → Act → World → Prop)
    (hnext : ∀ {u9 u92 u93 u94 u95 u96 u97 u98 u99 u100 u101 u102 u103 u104 u105 u106 u107 u108 u109 u110 u111 u112 u113 u114 u115 u116 u117 u118 u119 u120 u121 u122 u123 u124 u125 u126 u127 u128 u129 u130 u131 u132 u133 u134 u135 u136 u137 u138 u139 u140 u141 u142 u143 u144 u145 u146 u147 u148 u149 u150 u151 u152 u153 u154 u155 u156 u157 u158 u159 u160 u161 u162 u163 u164 : Value} {w' : World}, comp (fun i => ts.getD i noTile) n W ring m (r.next W ring ⟨tu, tr', td, tl'⟩) = none → Left B F M (some ⟨bt, ot, none⟩) n tc W H ring (fun i => ts.getD i noTile) pre ks (r.pos + 1) w' → Row w' b3 108 (rimL r) → Below B w0 w' → Others F w0 w' → Q .normal ⟨#[.pointer (some ⟨F, 0, none⟩), c1, c2, .pointer (some ⟨b3, 0, none⟩), c4, c5, .int .i64 (x : Int), .int .i64 (i : Int), .pointer (some ⟨b8, 0, none⟩), u9, c10, c11, c12, c13, c14, c15, c16, c17, c18, c19, c20, c21, c22, c23, c24, c25, c26, c27, c28, c29, c30, c31, c32, c33, c34, c35, c36, c37, c38, c39, c40, c41, c42, c43, c44, c45, c46, c47, c48, c49, c50, c51, c52, c53, c54, c55, c56, c57, c58, c59, c60, c61, c62, c63, c64, c65, c66, c67, c68, c69, c70, c71, c72, c73, c74, c75, c76, c77, c78, c79, c80, c81, c82, c83, c84, c85, c86, c87, c88, c89, c90, c91, u92, u93, u94, u95, u96, u97, u98, u99, u100, u101, u102, u103, u104, u105, u106, u107, u108, u109, u110, u111, u112, u113, u114, u115, u116, u117, u118, u119, u120, u121, u122, u123, u124, u125, u126, u127, u128, u129, u130, u131, u132, u133, u134, u135, u136, u137, u138, u139, u140, u141, u142, u143, u144, u145, u146, u147, u148, u149, u150, u151, u152, u153, u154, u155, u156, u157, u158, u159, u160, u161, u162, u163, u164, c165, c166, c167, c168, c169, c170], []⟩ w')
    (hcont : ∀ {u9 u92 u93 u94 u95 u96 u97 u98 u99 u100 u101 u102 u103 u104 u105 u106 u107 u108 u109 u110 u111 u112 u113 u114 u115 u116 u117 u118 u119 u120 u121 u122 u123 u124 u125 u126 u127 u128 u129 u130 u131 u132 u133 u134 u135 u136 u137 u138 u139 u140 u141 u142 u143 u144 u145 u146 u147 u148 u149 u150 u151 u152 u153 u154 u155 u156 u157 u158 u159 u160 u161 u162 u163 u164 : Value} {w' : World}, ¬ r.May W ring ⟨tu, tr', td, tl'⟩ → Left B F M (some ⟨bt, ot, none⟩) n tc W H ring (fun i => ts.getD i noTile) pre ks (r.pos + 1) w' → Row w' b3 108 (rimL r) → Below B w0 w' → Others F w0 w' → Q (.exit 3) ⟨#[.pointer (some ⟨F, 0, none⟩), c1, c2, .pointer (some ⟨b3, 0, none⟩), c4, c5, .int .i64 (x : Int), .int .i64 (i : Int), .pointer (some ⟨b8, 0, none⟩), u9, c10, c11, c12, c13, c14, c15, c16, c17, c18, c19, c20, c21, c22, c23, c24, c25, c26, c27, c28, c29, c30, c31, c32, c33, c34, c35, c36, c37, c38, c39, c40, c41, c42, c43, c44, c45, c46, c47, c48, c49, c50, c51, c52, c53, c54, c55, c56, c57, c58, c59, c60, c61, c62, c63, c64, c65, c66, c67, c68, c69, c70, c71, c72, c73, c74, c75, c76, c77, c78, c79, c80, c81, c82, c83, c84, c85, c86, c87, c88, c89, c90, c91, u92, u93, u94, u95, u96, u97, u98, u99, u100, u101, u102, u103, u104, u105, u106, u107, u108, u109, u110, u111, u112, u113, u114, u115, u116, u117, u118, u119, u120, u121, u122, u123, u124, u125, u126, u127, u128, u129, u130, u131, u132, u133, u134, u135, u136, u137, u138, u139, u140, u141, u142, u143, u144, u145, u146, u147, u148, u149, u150, u151, u152, u153, u154, u155, u156, u157, u158, u159, u160, u161, u162, u163, u164, c165, c166, c167, c168, c169, c170], []⟩ w')
    (hret : ∀ {u9 u92 u93 u94 u95 u96 u97 u98 u99 u100 u101 u102 u103 u104 u105 u106 u107 u108 u109 u110 u111 u112 u113 u114 u115 u116 u117 u118 u119 u120 u121 u122 u123 u124 u125 u126 u127 u128 u129 u130 u131 u132 u133 u134 u135 u136 u137 u138 u139 u140 u141 u142 u143 u144 u145 u146 u147 u148 u149 u150 u151 u152 u153 u154 u155 u156 u157 u158 u159 u160 u161 u162 u163 u164 : Value} {w' : World}, r.May W ring ⟨tu, tr', td, tl'⟩ → (∃ suf, comp (fun i => ts.getD i noTile) n W ring m (r.next W ring ⟨tu, tr', td, tl'⟩) = some suf ∧ Found B F M (some ⟨bt, ot, none⟩) n tc W H ring (pre ++ i :: suf) w') → Below B w0 w' → Others F w0 w' → Q .ret ⟨#[.pointer (some ⟨F, 0, none⟩), c1, c2, .pointer (some ⟨b3, 0, none⟩), .bool true, c5, .int .i64 (x : Int), .int .i64 (i : Int), .pointer (some ⟨b8, 0, none⟩), u9, c10, c11, c12, c13, c14, c15, c16, c17, c18, c19, c20, c21, c22, c23, c24, c25, c26, c27, c28, c29, c30, c31, c32, c33, c34, c35, c36, c37, c38, c39, c40, c41, c42, c43, c44, c45, c46, c47, c48, c49, c50, c51, c52, c53, c54, c55, c56, c57, c58, c59, c60, c61, c62, c63, c64, c65, c66, c67, c68, c69, c70, c71, c72, c73, c74, c75, c76, c77, c78, c79, c80, c81, c82, c83, c84, c85, c86, c87, c88, c89, c90, c91, u92, u93, u94, u95, u96, u97, u98, u99, u100, u101, u102, u103, u104, u105, u106, u107, u108, u109, u110, u111, u112, u113, u114, u115, u116, u117, u118, u119, u120, u121, u122, u123, u124, u125, u126, u127, u128, u129, u130, u131, u132, u133, u134, u135, u136, u137, u138, u139, u140, u141, u142, u143, u144, u145, u146, u147, u148, u149, u150, u151, u152, u153, u154, u155, u156, u157, u158, u159, u160, u161, u162, u163, u164, c165, c166, c167, c168, c169, c170], []⟩ w')
    : Code.wp Tryd.prog ((Pc.frm 18 (Tryd.f57.body.getD .skip)).getD .skip) Q ⟨#[.pointer (some ⟨F, 0, none⟩), c1, c2, .pointer (some ⟨b3, 0, none⟩), c4, c5, .int .i64 (x : Int), .int .i64 (i : Int), .pointer (some ⟨b8, 0, none⟩), c9, c10, c11, c12, c13, c14, c15, c16, c17, c18, c19, c20, c21, c22, c23, c24, c25, c26, c27, c28, c29, c30, c31, c32, c33, c34, c35, c36, c37, c38, c39, c40, c41, c42, c43, c44, c45, c46, c47, c48, c49, c50, c51, c52, c53, c54, c55, c56, c57, c58, c59, c60, c61, c62, c63, c64, c65, c66, c67, c68, c69, c70, c71, c72, c73, c74, c75, c76, c77, c78, c79, c80, c81, c82, c83, c84, c85, c86, c87, c88, c89, c90, c91, c92, c93, c94, c95, c96, c97, c98, c99, c100, c101, c102, c103, c104, c105, c106, c107, c108, c109, c110, c111, c112, c113, c114, c115, c116, c117, c118, c119, c120, c121, c122, c123, c124, c125, c126, c127, c128, c129, c130, c131, c132, c133, c134, c135, c136, c137, c138, c139, c140, c141, c142, c143, c144, c145, c146, c147, c148, c149, c150, c151, c152, c153, c154, c155, c156, c157, c158, c159, c160, c161, c162, c163, c164, c165, c166, c167, c168, c169, c170], []⟩ w := by
  conv => arg 2; whnf
  have u2 : (Tryd.prog.info? 108).map (·.size) = some (rimL r).length := by rw [rimL_length HR.out]; exact infoRim
  obtain ⟨v', hF6, hown6⟩ := HL6.out.found.ex
  obtain ⟨ks', hm6, hs6, hk6⟩ := HL6.out.memo
  have HF6 := Lib.hid hF6
  have HW6 := Lib.hid hown6
  have HME6 := Lib.hid hm6
  have HS6 := Lib.hid hs6
  have HK6 := Lib.hid hk6
  have hF6lt := hF6.lt
  have hM6lt := hm6.lt
  have hb86 := HT6.out.lt
  have hb36 := HR6.out.lt
  have hB6s : B ≤ w.heap.size := by omega
  have hp24 : r.pos ≤ 24 := by omega
  clear hF6 hown6 hm6 hs6 hk6 HL6
  go_upto_region 19 with (first | (refine wpList_load_mid rfl 108 _ rfl b3 0 rfl _ _ (row_range HR6.out) Tryd.underlying108 rfl u2 ?_) | (refine Ops.wpList_store_arr rfl 108 _ _ rfl _ rfl 108 _ _ rfl (row_alloc _ _ _) (by rw [rimL_length HR.out]; rfl) u2 (rimL_oneCell r) ?_; intro w7 hrow7 hon7))
  obtain ⟨b9, hb9⟩ : ∃ b, b = w.heap.size := ⟨_, rfl⟩
  have HB9 := Lib.hid hb9
  rw [← hb9] at hrow7 hon7 hb86 hb36 hB6s hF6lt hM6lt ⊢
  have hB7 : Below b9 w w7 := by rw [hb9]; exact ((Below.refl _ _).alloc (Nat.le_refl _) _).trans (hon7.below (by omega))
  have HB67 := Lib.hid hB7
  have HROW7 := Lib.hid hrow7
  have c0 := hrow7.cell 0
  rw [rimL_pos] at c0
  have z0 := hrow7.frozen 0
  have hp25 : (r.pos : Int) ≤ 24 := by omega
  clear hb9 hrow7 hon7 hB7 u2
  go_upto_region 20 with fail
  have hrow8 := HROW7.out.set 0 (.int .i64 ((r.pos : Int) + 1))
  rw [show ((r.pos : Int) + 1) = ((r.pos + 1 : Nat) : Int) from by push_cast; rfl, rimL_set_pos] at hrow8
  have hon8 := only_setCell w7 b9 0 (.int .i64 ((r.pos + 1 : Nat) : Int))
  rw [show ((r.pos : Int) + 1) = ((r.pos + 1 : Nat) : Int) from by push_cast; rfl]
  generalize w7.setCell ⟨b9, 0, none⟩ (.int .i64 ((r.pos + 1 : Nat) : Int)) = w8 at *
  have hB8 : Below b9 w w8 := HB67.out.trans (hon8.below (Nat.le_refl _))
  have HT8 := HT6.out.keep hB8 hb86
  have t1 := HT8.cell 1
  have t2 := HT8.cell 2
  dsimp only [List.getElem?_cons_succ, List.getElem?_cons_zero] at t1 t2
  have h17 : (rimL { r with pos := r.pos + 1 }).length = 17 := rimL_len5 HR.out.lover HR.out.lfirst HR.out.ltop
  obtain ⟨v1, c1'⟩ := row_at hrow8 (i := 1 + x) (by rw [h17]; omega)
  obtain ⟨v6, c6'⟩ := row_at hrow8 (i := 6) (by rw [h17]; omega)
  clear h17
  have z1 := hrow8.frozen (1 + x)
  have z6 := hrow8.frozen 6
  have hx5 : (x : Int) < 5 := by omega
  have HB8 := Lib.hid hB8
  have HROW8 := Lib.hid hrow8
  clear hon8 hrow8 c0 z0 HB67 HT8 hB8
  go_region
  have hrow9 := ((HROW8.out.set (1 + x) (.int .i64 td)).set 6 (.int .i64 tr')).drew
  rw [rimL_set_over (show ({ r with pos := r.pos + 1 } : Rm).over.length = 5 from HR.out.lover) (by omega), rimL_set_left (by simp [HR.out.lover])] at hrow9
  have HST : Hid (r.step W ⟨tu, tr', td, tl'⟩ = { pos := r.pos + 1, over := r.over.set x td, left := tr', first := r.first, top := r.top }) := by unfold Rm.step; rw [HXR.out]; rfl
  have hon9 := only_drew (((only_setCell w8 b9 (1 + x) (.int .i64 td))).trans (only_setCell _ b9 6 (.int .i64 tr')))
  dsimp only at hrow9
  rw [← HST.out] at hrow9
  generalize ((w8.setCell ⟨b9, 1 + x, none⟩ (.int .i64 td)).setCell ⟨b9, 6, none⟩ (.int .i64 tr')).drew = w9 at *
  have hB9 : Below b9 w w9 := HB8.out.trans (hon9.below (Nat.le_refl _))
  have HB9w := Lib.hid hB9
  have HROW9 := Lib.hid hrow9
  have HF9 := Lib.hid (HF6.out.keep hB9 hF6lt)
  have HT9 := Lib.hid (HT6.out.keep hB9 hb86)
  have HR9 := Lib.hid (HR6.out.keep hB9 hb36)
  have HME9 := Lib.hid (HME6.out.kept (w' := w9) (hB9.block M hM6lt))
  have HW9 := Lib.hid (own_keep HW6.out (w' := w9) (by rw [← HB9.out]; exact hB9))
  have HBR9 := Lib.hid (HBR.out.trans (hB9.mono hB6s))
  have HO9 := Lib.hid (HO6.out.trans (Others.of_below (by rw [← HB9.out]; exact hB9)))
  clear hrow9 hon9 hB9 c1' c6' z1 z6 t1 t2 HROW8 HST HB8
  go_step
  rename_i hKK
  refine hKK _ _ ?_
  clear hKK
  refine wp_seq ?_
  refine dring F M bt ot n tc W H x b3 b8 b9 ring tu tr' td tl' r v' w9 hW1 hW5 hxW hp24 (by omega) (by omega) (by omega) HXR HR HOKT HF9 HR9 HT9 HROW9 _ _ _ _ _ _ _ _ _ _ _ _ _ _ _ _ _ _ _ _ _ _ _ _ _ _ _ _ _ _ _ _ _ _ _ _ _ _ _ _ _ _ _ _ _ _ _ _ _ _ _ _ _ _ _ _ _ _ _ _ _ _ _ _ _ _ _ _ _ _ _ _ _ _ _ _ _ _ _ _ _ _ _ _ _ _ _ _ _ _ _ _ _ _ _ _ _ _ _ _ _ _ _ _ _ _ _ _ _ _ _ _ _ _ _ _ _ _ _ _ _ _ _ _ _ _ _ _ _ _ _ _ _ _ _ _ _ _ _ _ _ _ _ _ _ _ _ _ _ _ _ _ _ _ _ _ _ _ _ _ _ _ _ _ _ _ _ ?_ ?_
  · intro u105 u106 u107 u108 u109 u110 u111 u112 u113 u114 u115 u116 u117 u118 u119 u120 u121 u122 u123 u124 u125 u126 u127 u128 u129 u130 u131 u132 u133 u134 u135 u136 u137 u138 u139 u140 u141 w10 hrow10 hon10 hmay
    have HMAY : Hid (r.May W ring ⟨tu, tr', td, tl'⟩) := ⟨by rw [HXR.out]; exact HM1.out.1, by rw [HXR.out]; exact HM1.out.2, fun hr hx => hmay hr (by rw [← HXR.out]; exact hx)⟩
    have hown10 := own_only HW9.out hon10 (own_ne HW9.out HROW9.out (by decide))
    rw [HPRE.out] at hown10
    simp only [Exit.then]
    refine dcall B F M bt ot n tc W H m i b3 b9 ring ts r (r.next W ring ⟨tu, tr', td, tl'⟩) pre ks ks' v' w0 w10 hi hn16 hwh hBF hBM hTB hpos hF3 hB3 IH HT (Lib.hid (HBR9.out.trans (hon10.below hB6s)))
      (Lib.hid (HO6.out.trans (Others.of_below (by rw [← HB9.out]; exact HB9w.out.trans (hon10.below (Nat.le_refl _)))))) (Lib.hid (HR9.out.other hon10 (by omega))) (Lib.hid (HF9.out.other hon10 (by omega))) (Lib.hid hown10) (Lib.hid (HME9.out.kept (hon10.block M (by omega)))) (Lib.hid hrow10)
      (Lib.hid (HR.out.next (by omega) HOKT.out)) (Lib.hid rfl) HPRE HS6 HK6 _ _ _ _ _ _ _ _ _ _ _ _ _ _ _ _ _ _ _ _ _ _ _ _ _ _ _ _ _ _ _ _ _ _ _ _ _ _ _ _ _ _ _ _ _ _ _ _ _ _ _ _ _ _ _ _ _ _ _ _ _ _ _ _ _ _ _ _ _ _ _ _ _ _ _ _ _ _ _ _ _ _ _ _ _ _ _ _ _ _ _ _ _ _ _ _ _ _ _ _ _ _ _ _ _ _ _ _ _ _ _ _ _ _ _ _ _ _ _ _ _ _ _ _ _ _ _ _ _ _ _ _ _ _ _ _ _ _ _ _ _ _ _ _ _ _ _ _ _ _ _ _ _ _ _ _ _ _ _ _ _ _ _ _ _ _ _ _ ?_ ?_
    · intro u142 u143 u144 u145 u146 u147 u148 u149 u150 u151 u152 u153 u154 u155 u156 u157 u158 u159 u160 u161 u162 u163 u164 w11 g1 g2 g3 g4 g5
      exact hnext g1 g2 g3 g4 g5
    · intro u142 u143 u144 u145 u146 u147 u148 u149 u150 u151 u152 u153 u154 u155 u156 u157 u158 u159 u160 u161 u162 u163 u164 w11 g1 g2 g3
      exact hret HMAY.out g1 g2 g3
  · intro u105 u106 u107 u108 u109 u110 u111 u112 u113 u114 u115 u116 u117 u118 u119 u120 u121 u122 u123 u124 u125 u126 u127 u128 u129 u130 u131 u132 u133 u134 u135 u136 u137 u138 u139 u140 u141 w10 hon10 hno
    refine hcont hno ⟨⟨v', HF9.out.other hon10 (by omega), own_only HW9.out hon10 (own_ne HW9.out HROW9.out (by decide))⟩, ks', HME9.out.kept (hon10.block M (by omega)), HS6.out, HK6.out⟩ (HR9.out.other hon10 (by omega)) (HBR9.out.trans (hon10.below hB6s)) ?_
    exact HO6.out.trans (Others.of_below (by rw [← HB9.out]; exact HB9w.out.trans (hon10.below (Nat.le_refl _))))
end Wg
end Go.Proofs.YthggpjpmjhaidaaDoor
