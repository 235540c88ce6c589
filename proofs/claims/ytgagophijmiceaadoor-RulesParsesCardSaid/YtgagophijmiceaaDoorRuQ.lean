/- WALK: edenref1.Parse: its boxes, eight bits. -/
import Derived.Test.YtgagophijmiceaaDoorRuR3
import Derived.Test.YtgagophijmiceaaDoorRuF1
namespace Go.Proofs.YtgagophijmiceaaDoor
set_option linter.unusedSimpArgs false
set_option linter.unusedVariables false
open Go.RowKit
namespace Pr
open Tld Mem Bl Pn Pw Rd

/-- The boxes of the document's walk that reads a rule. -/
structure QSt (w0 wr : World) (ob rb nb : Nat) (K Bo S st ra : Int) (tu : ByteArray) (zs : List Int) (vs : Value) : Prop where
  q : Row wr ob 24 (rbox K Bo S st ra vs tu)
  r : Row wr rb 24 (rbox 0 0 0 0 0 (.slice none 0 0) ⟨#[]⟩)
  z : Row wr nb 24 (rbox 0 0 0 0 0 (.slice none 0 0) ⟨#[]⟩)
  o : wr.ownsRow w0.heap.size 3 1 vs zs.length (zs.map (Value.int .i64))
  bl : Below w0.heap.size w0 wr
  sz : w0.heap.size ≤ wr.heap.size
  ne : w0.heap.size ≤ ob ∧ w0.heap.size ≤ rb ∧ w0.heap.size ≤ nb ∧ ob ≠ rb ∧ ob ≠ nb ∧ rb ≠ nb
def QStE (w0 wr : World) (ob rb nb : Nat) (K Bo S st ra : Int) (tu : ByteArray) (zs : List Int) : Prop := ∃ vs, QSt w0 wr ob rb nb K Bo S st ra tu zs vs
section
variable {w0 wr w2 : World} {ob rb nb : Nat} {K Bo S st ra : Int} {tu : ByteArray} {zs : List Int} {vs : Value}
theorem QSt.keep (h : QSt w0 wr ob rb nb K Bo S st ra tu zs vs) (hb : Below wr.heap.size wr w2) : QSt w0 w2 ob rb nb K Bo S st ra tu zs vs :=
  ⟨h.q.keep hb h.q.lt, h.r.keep hb h.r.lt, h.z.keep hb h.z.lt, own_keep h.o hb, h.bl.trans (hb.mono h.sz), Nat.le_trans h.sz hb.size, h.ne⟩
theorem QSt.drew (h : QSt w0 wr ob rb nb K Bo S st ra tu zs vs) : QSt w0 wr.drew ob rb nb K Bo S st ra tu zs vs := h.keep (Below.refl _ _).drew
theorem QSt.after (h : QSt w0 wr ob rb nb K Bo S st ra tu zs vs) (hg : wr.grownBy w2 vs.ownBlock) : Row w2 ob 24 (rbox K Bo S st ra vs tu) ∧ Row w2 rb 24 (rbox 0 0 0 0 0 (.slice none 0 0) ⟨#[]⟩) ∧ Row w2 nb 24 (rbox 0 0 0 0 0 (.slice none 0 0) ⟨#[]⟩) ∧ Below w0.heap.size w0 w2 ∧ w0.heap.size ≤ w2.heap.size :=
  ⟨row_grown h.o hg h.q (by decide), row_grown h.o hg h.r (by decide), row_grown h.o hg h.z (by decide), h.bl.grown hg h.sz (own_low h.o), Nat.le_trans h.sz hg.size⟩
theorem QSt.push {vs' : Value} {x : Int} (h : QSt w0 wr ob rb nb K Bo S st ra tu zs vs) (hg : wr.grownBy w2 vs.ownBlock) (ho : w2.ownsRow w0.heap.size 3 1 vs' (zs.length + 1) (zs.map (Value.int .i64) ++ [.int .i64 x])) :
    QSt w0 (w2.setCell ⟨ob, 5, none⟩ vs') ob rb nb K Bo S st ra tu (zs ++ [x]) vs' := by
  obtain ⟨hq, hr, hz, hb, hs⟩ := h.after hg
  have ho9 := only_setCell w2 ob 5 vs'
  refine ⟨hq.set 5 _, hr.other ho9 (by have := h.ne; omega), hz.other ho9 (by have := h.ne; omega), ?_, hb.trans (ho9.below h.ne.1), by rw [ho9.size]; exact hs, h.ne⟩
  have e : (zs ++ [x]).map (Value.int .i64) = zs.map (Value.int .i64) ++ [.int .i64 x] := by rw [List.map_append]; rfl
  rw [e, List.length_append]
  exact own_only ho ho9 (own_ne ho hq (by decide))
theorem QSt.oth {k : Nat} {v : Value} {K' Bo' S' st' ra' : Int} {tu' : ByteArray} (h : QSt w0 wr ob rb nb K Bo S st ra tu zs vs) (e : (rbox K Bo S st ra vs tu).set k v = rbox K' Bo' S' st' ra' vs tu') : QSt w0 (wr.setCell ⟨ob, k, none⟩ v) ob rb nb K' Bo' S' st' ra' tu' zs vs := by
  have ho := only_setCell wr ob k v
  exact ⟨by rw [← e]; exact h.q.set k v, h.r.other ho (by have := h.ne; omega), h.z.other ho (by have := h.ne; omega), own_only h.o ho (own_ne h.o h.q (by decide)), h.bl.trans (ho.below h.ne.1), by rw [ho.size]; exact h.sz, h.ne⟩
theorem QSt.set0 (h : QSt w0 wr ob rb nb K Bo S st ra tu zs vs) (v : Int) : QSt w0 (wr.setCell ⟨ob, 0, none⟩ (.int .i64 v)) ob rb nb v Bo S st ra tu zs vs := h.oth rfl
theorem QSt.set1 (h : QSt w0 wr ob rb nb K Bo S st ra tu zs vs) (v : Int) : QSt w0 (wr.setCell ⟨ob, 1, none⟩ (.int .i64 v)) ob rb nb K v S st ra tu zs vs := h.oth rfl
theorem QSt.set2 (h : QSt w0 wr ob rb nb K Bo S st ra tu zs vs) (v : Int) : QSt w0 (wr.setCell ⟨ob, 2, none⟩ (.int .i64 v)) ob rb nb K Bo v st ra tu zs vs := h.oth rfl
theorem QSt.set3 (h : QSt w0 wr ob rb nb K Bo S st ra tu zs vs) (v : Int) : QSt w0 (wr.setCell ⟨ob, 3, none⟩ (.int .i64 v)) ob rb nb K Bo S v ra tu zs vs := h.oth rfl
theorem QSt.set4 (h : QSt w0 wr ob rb nb K Bo S st ra tu zs vs) (v : Int) : QSt w0 (wr.setCell ⟨ob, 4, none⟩ (.int .i64 v)) ob rb nb K Bo S st v tu zs vs := h.oth rfl
theorem QSt.set6 (h : QSt w0 wr ob rb nb K Bo S st ra tu zs vs) (v : ByteArray) : QSt w0 (wr.setCell ⟨ob, 6, none⟩ (.string v)) ob rb nb K Bo S st ra v zs vs := h.oth rfl
end
theorem halves (n j : Nat) : n / 2 ^ j / 2 = n / 2 ^ (j + 1) := by rw [Nat.div_div_eq_div_mul, Nat.pow_succ]
theorem mod_two (q : Nat) : (q : Int).tmod 2 = ((q % 2 : Nat) : Int) := by rw [Int.tmod_eq_emod_of_nonneg (by omega)]; rfl
theorem div_two (q : Nat) : (q : Int).tdiv 2 = ((q / 2 : Nat) : Int) := by rw [Int.tdiv_eq_ediv_of_nonneg (by omega)]; rfl
set_option maxHeartbeats 8000000 in
set_option maxRecDepth 1000000 in
theorem rq_bits (w0 w : World) (ob rb nb n : Nat) (K Bo S st ra : Int) (tu : ByteArray) (vs0 : Value) (hn : n < 512) (hT : QSt w0 w ob rb nb K Bo S st ra tu ([]) vs0)
    (c0 c1 c3 c4 c7 c8 c9 c10 c12 c14 c15 c16 c17 c18 c19 c20 c21 c22 c23 c24 c25 c26 c27 c28 c29 c30 c31 c32 c33 c34 c35 c36 c37 c38 c39 c40 c41 c42 c43 c44 c45 c46 c47 c48 c49 c50 c51 c52 c53 c54 c55 c56 c57 c58 c59 c60 c61 c62 c63 c64 c65 c66 c67 c68 c69 c70 c71 c72 c73 c74 c75 c76 c77 c78 c79 c80 c81 c82 c83 c84 c85 c86 c87 c88 c89 c90 c91 c92 c93 c94 c95 c96 c97 c98 c99 c100 c101 c102 c103 c104 c105 c106 c107 c108 c109 c110 c111 c112 c113 c114 c115 c116 c117 c118 c119 c120 c121 c122 c123 c124 c125 c126 c127 c128 c129 c130 c131 c132 c133 c134 c135 c136 c137 c138 c139 c140 c141 c142 c143 c144 c145 c146 c147 c148 c149 c150 c151 c152 c153 c154 c155 c156 c157 c158 c159 c160 c161 c162 c163 c164 c165 c166 c167 c168 c169 c170 c171 c172 c173 c174 c175 c176 c177 c178 c179 c180 c181 c182 c183 c184 c185 c186 c187 c188 c189 c190 c191 c192 c193 c194 c195 c196 c197 c198 c199 c200 c201 c202 c203 c204 c205 c206 c207 c208 c209 c210 c211 c212 c213 c214 c215 c216 c217 c218 c219 c220 c221 c222 c223 c224 c225 c226 c227 c228 c229 c230 c231 c232 c233 c234 c235 c236 c237 c238 c239 c240 c241 c242 c243 c244 c245 c246 c247 c248 c249 c250 c251 c252 c253 c254 c255 c256 c257 c258 c259 c260 c261 c262 c263 c264 c265 c266 c267 c268 c269 c270 c271 c272 c273 c274 c275 c276 c277 c278 c279 c280 c281 c282 c283 c284 c285 c286 c287 c288 c289 c290 c291 c292 c293 c294 c295 : Value) (Q : Exit → Act → World → Prop)
    (hnext : ∀ {u11 u102 u103 u104 u105 u106 u107 u108 u109 u110 u111 u112 u113 u114 : Value} {w' : World}, QStE w0 w' ob rb nb K Bo S st ra tu (bitsL n 8) → Q .normal ⟨#[c0, c1, .pointer (some ⟨rb, 0, none⟩), c3, c4, .pointer (some ⟨ob, 0, none⟩), .pointer (some ⟨nb, 0, none⟩), c7, c8, c9, c10, u11, c12, .int .i64 8, c14, c15, c16, c17, c18, c19, c20, c21, c22, c23, c24, c25, c26, c27, c28, c29, c30, c31, c32, c33, c34, c35, c36, c37, c38, c39, c40, c41, c42, c43, c44, c45, c46, c47, c48, c49, c50, c51, c52, c53, c54, c55, c56, c57, c58, c59, c60, c61, c62, c63, c64, c65, c66, c67, c68, c69, c70, c71, c72, c73, c74, c75, c76, c77, c78, c79, c80, c81, c82, c83, c84, c85, c86, c87, c88, c89, c90, c91, c92, c93, c94, c95, c96, c97, c98, c99, c100, c101, u102, u103, u104, u105, u106, u107, u108, u109, u110, u111, u112, u113, u114, c115, c116, c117, c118, c119, c120, c121, c122, c123, c124, c125, c126, c127, c128, c129, c130, c131, c132, c133, c134, c135, c136, c137, c138, c139, c140, c141, c142, c143, c144, c145, c146, c147, c148, c149, c150, c151, c152, c153, c154, c155, c156, c157, c158, c159, c160, c161, c162, c163, c164, c165, c166, c167, c168, c169, c170, c171, c172, c173, c174, c175, c176, c177, c178, c179, c180, c181, c182, c183, c184, c185, c186, c187, c188, c189, c190, c191, c192, c193, c194, c195, c196, c197, c198, c199, c200, c201, c202, c203, c204, c205, c206, c207, c208, c209, c210, c211, c212, c213, c214, c215, c216, c217, c218, c219, c220, c221, c222, c223, c224, c225, c226, c227, c228, c229, c230, c231, c232, c233, c234, c235, c236, c237, c238, c239, c240, c241, c242, c243, c244, c245, c246, c247, c248, c249, c250, c251, c252, c253, c254, c255, c256, c257, c258, c259, c260, c261, c262, c263, c264, c265, c266, c267, c268, c269, c270, c271, c272, c273, c274, c275, c276, c277, c278, c279, c280, c281, c282, c283, c284, c285, c286, c287, c288, c289, c290, c291, c292, c293, c294, c295], []⟩ w')
    : Code.wp Tryd.prog ((Pc.blk 1 (Tryd.f8.body.getD .skip)).getD .skip) Q ⟨#[c0, c1, .pointer (some ⟨rb, 0, none⟩), c3, c4, .pointer (some ⟨ob, 0, none⟩), .pointer (some ⟨nb, 0, none⟩), c7, c8, c9, c10, .int .i64 ((n : Nat) : Int), c12, .int .i64 0, c14, c15, c16, c17, c18, c19, c20, c21, c22, c23, c24, c25, c26, c27, c28, c29, c30, c31, c32, c33, c34, c35, c36, c37, c38, c39, c40, c41, c42, c43, c44, c45, c46, c47, c48, c49, c50, c51, c52, c53, c54, c55, c56, c57, c58, c59, c60, c61, c62, c63, c64, c65, c66, c67, c68, c69, c70, c71, c72, c73, c74, c75, c76, c77, c78, c79, c80, c81, c82, c83, c84, c85, c86, c87, c88, c89, c90, c91, c92, c93, c94, c95, c96, c97, c98, c99, c100, c101, c102, c103, c104, c105, c106, c107, c108, c109, c110, c111, c112, c113, c114, c115, c116, c117, c118, c119, c120, c121, c122, c123, c124, c125, c126, c127, c128, c129, c130, c131, c132, c133, c134, c135, c136, c137, c138, c139, c140, c141, c142, c143, c144, c145, c146, c147, c148, c149, c150, c151, c152, c153, c154, c155, c156, c157, c158, c159, c160, c161, c162, c163, c164, c165, c166, c167, c168, c169, c170, c171, c172, c173, c174, c175, c176, c177, c178, c179, c180, c181, c182, c183, c184, c185, c186, c187, c188, c189, c190, c191, c192, c193, c194, c195, c196, c197, c198, c199, c200, c201, c202, c203, c204, c205, c206, c207, c208, c209, c210, c211, c212, c213, c214, c215, c216, c217, c218, c219, c220, c221, c222, c223, c224, c225, c226, c227, c228, c229, c230, c231, c232, c233, c234, c235, c236, c237, c238, c239, c240, c241, c242, c243, c244, c245, c246, c247, c248, c249, c250, c251, c252, c253, c254, c255, c256, c257, c258, c259, c260, c261, c262, c263, c264, c265, c266, c267, c268, c269, c270, c271, c272, c273, c274, c275, c276, c277, c278, c279, c280, c281, c282, c283, c284, c285, c286, c287, c288, c289, c290, c291, c292, c293, c294, c295], []⟩ w := by
  conv => arg 2; whnf
  obtain ⟨i0, hI0, hz0, hz1, hz2⟩ := info_parts infoIntV
  have HI0 := Lib.hid hI0
  have HZ0 := Lib.hid hz0
  have HZ1 := Lib.hid hz1
  have HZ2 := Lib.hid hz2
  have HNB := Lib.hid hn
  have HT := Lib.hid hT
  clear hn hT hI0 hz0 hz1 hz2
  go_wp2_with fail
  go_loopw [11, 13] (fun u v wx => ∃ (j q : Nat) (vs : Value), u = .int .i64 ((q : Nat) : Int) ∧ v = .int .i64 ((j : Nat) : Int) ∧ q = n / 2 ^ j ∧ j ≤ 8 ∧ QSt w0 wx ob rb nb K Bo S st ra tu (bitsL n j) vs) (fun _ v _ => 8 - (RowKit.intOf v).toNat)
  case atStart => exact ⟨0, n, vs0, rfl, rfl, by simp, by decide, HT.out⟩
  case round =>
    clear HT
    obtain ⟨j, q, vs, rfl, rfl, hq, hj, ht⟩ := hrel
    have HT := Lib.hid ht
    clear ht
    by_cases hj8 : j < 8
    · have hji : (j : Int) < 8 := by omega
      have HJ8 : Hid (j + 1 ≤ 8) := Lib.hid hj8
      have E1 : Hid (wrap64 ((j : Int) + 1) = ((j + 1 : Nat) : Int)) := Lib.hid (wr48b (by push_cast; rfl) (by omega))
      obtain ⟨t, ht⟩ : ∃ t, t = q % 2 := ⟨_, rfl⟩
      obtain ⟨q2, hq2⟩ : ∃ q2, q2 = q / 2 := ⟨_, rfl⟩
      have m1 : (q : Int).tmod 2 = ((t : Nat) : Int) := by rw [ht]; exact mod_two q
      have m2 : (q : Int).tdiv 2 = ((q2 : Nat) : Int) := by rw [hq2]; exact div_two q
      have HQ2 : Hid (q2 = n / 2 ^ (j + 1)) := Lib.hid (by rw [hq2, hq, halves])
      have HNX : Hid (bitsL n (j + 1) = bitsL n j ++ [((t : Nat) : Int)]) := Lib.hid (by rw [bitsL_succ, ht, hq])
      have HLN : Hid ((bitsL n j).length = j) := Lib.hid (bitsL_len n j)
      have HK2 : Hid ((bitsL n j).length ≤ 1000000) := Lib.hid (by rw [bitsL_len]; omega)
      have hqn : q ≤ n := by rw [hq]; exact Nat.div_le_self _ _
      have hq3 : q2 ≤ 9223372036854775807 := by have h := HNB.out; omega
      have E3 : Hid (wrap64 ((q2 : Nat) : Int) = ((q2 : Nat) : Int)) := Lib.hid (wr48b rfl hq3)
      clear hqn hq3
      clear hq ht hq2 hj hj8
      have g5 := HT.out.q.cell 5
      unfold rbox at g5
      dsimp only [List.getElem?_cons_succ, List.getElem?_cons_zero] at g5
      have hnew := row_alloc wr 3 [.int .i64 ((t : Nat) : Int)]
      have hbn : Below wr.heap.size wr (wr.alloc (.cells [.int .i64 ((t : Nat) : Int)].toArray 3)) := (Below.refl _ _).alloc (Nat.le_refl _) _
      have HTa := Lib.hid (HT.out.keep hbn)
      have HCEL := Lib.hid (hnew.cell 0)
      have HSS : Hid (w0.heap.size ≤ (wr.alloc (.cells [.int .i64 ((t : Nat) : Int)].toArray 3)).heap.size) := HTa.out.sz
      clear HT hnew hbn
      go_wp2_with (at_builtin; refine Ops.wpList_append1 rfl _ _ 22 rfl w0.heap.size 3 i0 (.int .i64 0) 8 Tryd.underlying22 HI0.out HZ0.out rfl HZ1.out HZ2.out _ (bitsL n j).length _ rfl HTa.out.o ⟨wr.heap.size, 0, none⟩ 1 (.int .i64 ((t : Nat) : Int)) rfl HCEL.out rfl ?c1 ?c2 HSS.out ?_)
      case c1 => have := HK2.out; unfold maxLen; omega
      case c2 => have := HK2.out; omega
      intro ao' co' w7 hO7 hg7
      have HPU := Lib.hid (HTa.out.push (x := ((t : Nat) : Int)) hg7 hO7)
      have c2 := (HTa.out.after hg7).1.cell 5
      have z2 := (HTa.out.after hg7).1.frozen 5
      unfold rbox at c2
      dsimp only [List.getElem?_cons_succ, List.getElem?_cons_zero] at c2
      clear hO7 hg7 HTa HCEL HSS
      go_wp2_with fail
      clear c2 z2 m1 m2
      generalize w7.setCell ⟨ob, 5, none⟩ (.slice ao' ((bitsL n j).length + 1) co') = w9 at *
      go_roundw
      case rel => exact ⟨j + 1, q2, _, by first | rfl | exact congrArg (Value.int .i64) E3.out, by first | rfl | exact congrArg (Value.int .i64) E1.out, HQ2.out, HJ8.out, by rw [HNX.out]; exact HPU.out⟩
      case measure => first | exact measw E1.out (by have := HJ8.out; omega) | exact measw (m := j + 1) rfl (by have := HJ8.out; omega)
    · obtain rfl : j = 8 := by omega
      have hji : ¬ ((8 : Nat) : Int) < 8 := by omega
      clear hq hj hj8
      go_wp2_with fail
      exact ⟨vs, HT.out⟩
end Pr
end Go.Proofs.YtgagophijmiceaaDoor
