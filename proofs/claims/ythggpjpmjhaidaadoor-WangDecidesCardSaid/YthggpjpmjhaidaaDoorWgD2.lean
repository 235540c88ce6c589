/- WALK: wang's search (filler.fill), a round. -/
import Derived.Test.YthggpjpmjhaidaaDoorWgD3
namespace Go.Proofs.YthggpjpmjhaidaaDoor
set_option linter.unusedSimpArgs false
set_option linter.unusedVariables false
open Go.RowKit Go.Lib
namespace Wg
open Tld Mem

set_option maxHeartbeats 4000000 in
set_option maxRecDepth 1000000 in
theorem dround (B F M bt ot n tc W H m i x b3 : Nat) (ring : Bool) (ts : List Tl) (r : Rm) (pre : List Nat) (ks : List Rm) (w0 wr : World)
    (hlt : i < n) (hn16 : n ≤ 16) (hwh : W * H ≤ 25) (hW1 : 1 ≤ W) (hW5 : W ≤ 5) (hxW : x < W) (hBF : B ≤ F) (hBM : B ≤ M) (hTB : bt < B) (hpos : r.pos + (m + 1) = W * H) (hF3 : F < b3) (hB3 : B ≤ b3) (hts : ∀ t ∈ ts, t.ok = true)
    (IH : Hid (IHT B F M bt ot n tc W H ring ts m)) (HT : Hid (Tiles w0 (some ⟨bt, ot, none⟩) n ts)) (hbel : Below B w0 wr) (HOT : Hid (Others F w0 wr)) (HRW : Hid (Row wr b3 108 (rimL r)))
    (HLF : Hid (Left B F M (some ⟨bt, ot, none⟩) n tc W H ring (fun i => ts.getD i noTile) pre ks (r.pos + 1) wr))
    (HXR : Hid (r.x W = x)) (HR : Hid (Fine r)) (HPRE : Hid (pre.length = r.pos))
    (c1 c2 c4 c5 c7 c8 c9 c10 c11 c12 c13 c14 c15 c16 c17 c18 c19 c20 c21 c22 c23 c24 c25 c26 c27 c28 c29 c30 c31 c32 c33 c34 c35 c36 c37 c38 c39 c40 c41 c42 c43 c44 c45 c46 c47 c48 c49 c50 c51 c52 c53 c54 c55 c56 c57 c58 c59 c63 c64 c65 c66 c67 c68 c69 c70 c71 c72 c73 c74 c75 c76 c77 c78 c79 c80 c81 c82 c83 c84 c85 c86 c87 c88 c89 c90 c91 c92 c93 c94 c95 c96 c97 c98 c99 c100 c101 c102 c103 c104 c105 c106 c107 c108 c109 c110 c111 c112 c113 c114 c115 c116 c117 c118 c119 c120 c121 c122 c123 c124 c125 c126 c127 c128 c129 c130 c131 c132 c133 c134 c135 c136 c137 c138 c139 c140 c141 c142 c143 c144 c145 c146 c147 c148 c149 c150 c151 c152 c153 c154 c155 c156 c157 c158 c159 c160 c161 c162 c163 c164 c165 c166 c167 c168 c169 c170 : Value) (Q : Exit → Act → World → Prop)
    (hnext : ∀ {u7 u8 u9 u64 u65 u66 u67 u68 u69 u70 u71 u72 u73 u74 u75 u76 u77 u78 u79 u80 u81 u82 u83 u84 u85 u86 u87 u88 u89 u90 u91 u92 u93 u94 u95 u96 u97 u98 u99 u100 u101 u102 u103 u104 u105 u106 u107 u108 u109 u110 u111 u112 u113 u114 u115 u116 u117 u118 u119 u120 u121 u122 u123 u124 u125 u126 u127 u128 u129 u130 u131 u132 u133 u134 u135 u136 u137 u138 u139 u140 u141 u142 u143 u144 u145 u146 u147 u148 u149 u150 u151 u152 u153 u154 u155 u156 u157 u158 u159 u160 u161 u162 u163 u164 : Value} {w' : World}, tr (stepF (fun i => ts.getD i noTile) n W ring m r) (n - i) i = tr (stepF (fun i => ts.getD i noTile) n W ring m r) (n - (i + 1)) (i + 1) → Left B F M (some ⟨bt, ot, none⟩) n tc W H ring (fun i => ts.getD i noTile) pre ks (r.pos + 1) w' → Row w' b3 108 (rimL r) → Below B w0 w' → Others F w0 w' → Q .normal ⟨#[.pointer (some ⟨F, 0, none⟩), c1, c2, .pointer (some ⟨b3, 0, none⟩), c4, c5, .int .i64 (x : Int), u7, u8, u9, c10, c11, c12, c13, c14, c15, c16, c17, c18, c19, c20, c21, c22, c23, c24, c25, c26, c27, c28, c29, c30, c31, c32, c33, c34, c35, c36, c37, c38, c39, c40, c41, c42, c43, c44, c45, c46, c47, c48, c49, c50, c51, c52, c53, c54, c55, c56, c57, c58, c59, .slice (some ⟨bt, ot, none⟩) n tc, .int .i64 (n : Int), .int .i64 (i : Int), c63, u64, u65, u66, u67, u68, u69, u70, u71, u72, u73, u74, u75, u76, u77, u78, u79, u80, u81, u82, u83, u84, u85, u86, u87, u88, u89, u90, u91, u92, u93, u94, u95, u96, u97, u98, u99, u100, u101, u102, u103, u104, u105, u106, u107, u108, u109, u110, u111, u112, u113, u114, u115, u116, u117, u118, u119, u120, u121, u122, u123, u124, u125, u126, u127, u128, u129, u130, u131, u132, u133, u134, u135, u136, u137, u138, u139, u140, u141, u142, u143, u144, u145, u146, u147, u148, u149, u150, u151, u152, u153, u154, u155, u156, u157, u158, u159, u160, u161, u162, u163, u164, c165, c166, c167, c168, c169, c170], []⟩ w')
    (hret : ∀ {u7 u8 u9 u64 u65 u66 u67 u68 u69 u70 u71 u72 u73 u74 u75 u76 u77 u78 u79 u80 u81 u82 u83 u84 u85 u86 u87 u88 u89 u90 u91 u92 u93 u94 u95 u96 u97 u98 u99 u100 u101 u102 u103 u104 u105 u106 u107 u108 u109 u110 u111 u112 u113 u114 u115 u116 u117 u118 u119 u120 u121 u122 u123 u124 u125 u126 u127 u128 u129 u130 u131 u132 u133 u134 u135 u136 u137 u138 u139 u140 u141 u142 u143 u144 u145 u146 u147 u148 u149 u150 u151 u152 u153 u154 u155 u156 u157 u158 u159 u160 u161 u162 u163 u164 : Value} {w' : World}, (∃ suf, tr (stepF (fun i => ts.getD i noTile) n W ring m r) (n - i) i = some suf ∧ Found B F M (some ⟨bt, ot, none⟩) n tc W H ring (pre ++ suf) w') → Below B w0 w' → Others F w0 w' → Q .ret ⟨#[.pointer (some ⟨F, 0, none⟩), c1, c2, .pointer (some ⟨b3, 0, none⟩), .bool true, c5, .int .i64 (x : Int), u7, u8, u9, c10, c11, c12, c13, c14, c15, c16, c17, c18, c19, c20, c21, c22, c23, c24, c25, c26, c27, c28, c29, c30, c31, c32, c33, c34, c35, c36, c37, c38, c39, c40, c41, c42, c43, c44, c45, c46, c47, c48, c49, c50, c51, c52, c53, c54, c55, c56, c57, c58, c59, .slice (some ⟨bt, ot, none⟩) n tc, .int .i64 (n : Int), .int .i64 (i : Int), c63, u64, u65, u66, u67, u68, u69, u70, u71, u72, u73, u74, u75, u76, u77, u78, u79, u80, u81, u82, u83, u84, u85, u86, u87, u88, u89, u90, u91, u92, u93, u94, u95, u96, u97, u98, u99, u100, u101, u102, u103, u104, u105, u106, u107, u108, u109, u110, u111, u112, u113, u114, u115, u116, u117, u118, u119, u120, u121, u122, u123, u124, u125, u126, u127, u128, u129, u130, u131, u132, u133, u134, u135, u136, u137, u138, u139, u140, u141, u142, u143, u144, u145, u146, u147, u148, u149, u150, u151, u152, u153, u154, u155, u156, u157, u158, u159, u160, u161, u162, u163, u164, c165, c166, c167, c168, c169, c170], []⟩ w')
    : Code.wp Tryd.prog ((Pc.blk 3 (Tryd.f57.body.getD .skip)).getD .skip) Q ⟨#[.pointer (some ⟨F, 0, none⟩), c1, c2, .pointer (some ⟨b3, 0, none⟩), c4, c5, .int .i64 (x : Int), c7, c8, c9, c10, c11, c12, c13, c14, c15, c16, c17, c18, c19, c20, c21, c22, c23, c24, c25, c26, c27, c28, c29, c30, c31, c32, c33, c34, c35, c36, c37, c38, c39, c40, c41, c42, c43, c44, c45, c46, c47, c48, c49, c50, c51, c52, c53, c54, c55, c56, c57, c58, c59, .slice (some ⟨bt, ot, none⟩) n tc, .int .i64 (n : Int), .int .i64 (i : Int), c63, c64, c65, c66, c67, c68, c69, c70, c71, c72, c73, c74, c75, c76, c77, c78, c79, c80, c81, c82, c83, c84, c85, c86, c87, c88, c89, c90, c91, c92, c93, c94, c95, c96, c97, c98, c99, c100, c101, c102, c103, c104, c105, c106, c107, c108, c109, c110, c111, c112, c113, c114, c115, c116, c117, c118, c119, c120, c121, c122, c123, c124, c125, c126, c127, c128, c129, c130, c131, c132, c133, c134, c135, c136, c137, c138, c139, c140, c141, c142, c143, c144, c145, c146, c147, c148, c149, c150, c151, c152, c153, c154, c155, c156, c157, c158, c159, c160, c161, c162, c163, c164, c165, c166, c167, c168, c169, c170], []⟩ wr := by
  conv => arg 2; whnf
  have hrr := (HT.out.low (B := B) hbel hTB).range hlt
  have hbt' := hrr.1
  have HTR := Lib.hid hrr.2
  have HSN : Hid (∀ t, t = ts.getD i noTile → ¬ r.May W ring t → tr (stepF (fun i => ts.getD i noTile) n W ring m r) (n - i) i = tr (stepF (fun i => ts.getD i noTile) n W ring m r) (n - (i + 1)) (i + 1)) := fun t e h => by subst e; exact step_no hlt h
  have HSO : Hid (∀ t, t = ts.getD i noTile → comp (fun i => ts.getD i noTile) n W ring m (r.next W ring t) = none → tr (stepF (fun i => ts.getD i noTile) n W ring m r) (n - i) i = tr (stepF (fun i => ts.getD i noTile) n W ring m r) (n - (i + 1)) (i + 1)) := fun t e h => by subst e; exact step_none hlt h
  have HSS : Hid (∀ t, t = ts.getD i noTile → r.May W ring t → ∀ suf, comp (fun i => ts.getD i noTile) n W ring m (r.next W ring t) = some suf → tr (stepF (fun i => ts.getD i noTile) n W ring m r) (n - i) i = some (i :: suf)) := fun t e hm suf h => by subst e; exact step_some hlt hm h
  have hokt := hts _ (tl_mem (ts := ts) (k := i) (by rw [HT.out.len]; exact hlt))
  clear hrr hts
  obtain ⟨t, ht⟩ : ∃ t, t = ts.getD i noTile := ⟨_, rfl⟩
  rw [← ht] at HTR hokt
  have HOKT := Lib.hid hokt
  have HTE := Lib.hid ht
  clear ht hokt
  obtain ⟨tu, tr', td, tl'⟩ := t
  go_upto_region 17 with (refine wpList_load_mid rfl 89 _ rfl bt (ot + i * 4) rfl _ _ HTR.out Tryd.underlying89 rfl infoTile ?_)
  have hrow8 : Row (wr.alloc (.cells #[.int .i64 tu, .int .i64 tr', .int .i64 td, .int .i64 tl'] 89)) wr.heap.size 89 [.int .i64 tu, .int .i64 tr', .int .i64 td, .int .i64 tl'] := row_alloc wr 89 [.int .i64 tu, .int .i64 tr', .int .i64 td, .int .i64 tl']
  have hR8 := HRW.out.keep (B := wr.heap.size) ((Below.refl _ wr).alloc (Nat.le_refl _) (.cells #[.int .i64 tu, .int .i64 tr', .int .i64 td, .int .i64 tl'] 89)) HRW.out.lt
  have hB8 : Below wr.heap.size wr (wr.alloc (.cells #[.int .i64 tu, .int .i64 tr', .int .i64 td, .int .i64 tl'] 89)) := (Below.refl _ wr).alloc (Nat.le_refl _) _
  have HR8 := Lib.hid hR8
  have HROW8 := Lib.hid hrow8
  have HB8 := Lib.hid hB8
  clear hrow8 hR8 hB8
  generalize wr.alloc (.cells #[.int .i64 tu, .int .i64 tr', .int .i64 td, .int .i64 tl'] 89) = w5 at *
  obtain ⟨b8, hb8⟩ : ∃ b8, b8 = wr.heap.size := ⟨_, rfl⟩
  have HBB8 := Lib.hid hb8
  rw [← hb8] at HROW8 hbt' ⊢
  clear hb8
  go_cut [91] from 67 to 91 (fun s wx => (∃ q : Bool, s = .bool q ∧ (q = false ↔ ((r.over.getD x 0 = -1 ∨ tu = r.over.getD x 0) ∧ (0 < x → tl' = r.left)))) ∧ ∃ nq, wx = w5.drewN nq)
  case first =>
    have o1 := (HR8.out.cell (1 + x)).trans (rimL_over HR.out (by omega))
    have o2 := (HR8.out.cell 6).trans (rimL_left HR.out)
    have t0 := HROW8.out.cell 0
    have t3 := HROW8.out.cell 3
    dsimp only [List.getElem?_cons_succ, List.getElem?_cons_zero] at t0 t3
    have hx5 : (x : Int) < 5 := by omega
    generalize r.over.getD x 0 = o at *
    generalize r.left = lf at *
    clear HLF HRW HTR HSN HSO HSS HOKT HTE HOT HR8 HROW8 HB8 HBB8 IH HT HR HXR HPRE hnext hret hbel
    have hsplit : (0 < x ∧ tl' = lf) ∨ (0 < x ∧ tl' ≠ lf) ∨ ¬ 0 < x := by omega
    by_cases a1 : o = -1
    case' pos => have a1' : (o == -1) = true ∧ (o != -1) = false := by subst a1; decide
    case' neg =>
      have a1' : (o == -1) = false ∧ (o != -1) = true := by simp [a1]
      by_cases a2 : tu = o
      case' pos => have a2' : (tu == o) = true ∧ (tu != o) = false := by simp [a2]
      case' neg => have a2' : (tu == o) = false ∧ (tu != o) = true := by simp [a2]
    all_goals
      rcases hsplit with ⟨a3, a4⟩ | ⟨a3, a4⟩ | a3
    all_goals
      first
      | (have a4' : (tl' == lf) = true ∧ (tl' != lf) = false := by simp [a4])
      | (have a4' : (tl' == lf) = false ∧ (tl' != lf) = true := by simp [a4])
      | skip
    all_goals
      first
      | (have a3' : decide ((0 : Int) < (x : Int)) = true := by rw [decide_eq_true_iff]; omega)
      | (have a3' : decide ((0 : Int) < (x : Int)) = false := by rw [decide_eq_false_iff_not]; omega)
    all_goals
      first
      | (have a3'' : decide (0 < x) = true := by rw [decide_eq_true_iff]; omega)
      | (have a3'' : decide (0 < x) = false := by rw [decide_eq_false_iff_not]; omega)
    all_goals try have A1 := Lib.hid a1
    all_goals try clear a1
    all_goals try have A2 := Lib.hid a2
    all_goals try clear a2
    all_goals try have A3 := Lib.hid a3
    all_goals try clear a3
    all_goals try have A4 := Lib.hid a4
    all_goals try clear a4
    all_goals try obtain ⟨a1', a1''⟩ := a1'
    all_goals try obtain ⟨a2', a2''⟩ := a2'
    all_goals try obtain ⟨a4', a4''⟩ := a4'
    all_goals go_big_quiet (fail)
    all_goals (go_wp2_with fail; go_meet; case rel => exact ⟨⟨_, rfl, by have B3 := A3.out; have B1 := A1.out; first | (have B2 := A2.out; first | (have B4 := A4.out; simp [B1, B2, B3, B4]) | simp [B1, B2, B3]) | (first | (have B4 := A4.out; simp [B1, B3, B4]) | simp [B1, B3])⟩, nq, rfl⟩)
  case rest =>
  obtain ⟨⟨q, rfl, hq⟩, nq, rfl⟩ := hcut
  have HQQ := Lib.hid hq
  have HR6 := Lib.hid (HR8.out.drewN nq)
  have HT6 := Lib.hid (HROW8.out.drewN nq)
  have HB6 : Hid (Below wr.heap.size wr (w5.drewN nq)) := below_drewN HB8.out nq
  have HL6 : Hid (Left B F M (some ⟨bt, ot, none⟩) n tc W H ring (fun i => ts.getD i noTile) pre ks (r.pos + 1) (w5.drewN nq)) := HLF.out.keep HB6.out
  have hBr : Below B w0 (w5.drewN nq) := hbel.trans (HB6.out.mono (by have := HRW.out.lt; omega))
  have HBR := Lib.hid hBr
  have HO6 : Hid (Others F w0 (w5.drewN nq)) := HOT.out.trans (Others.of_below HB6.out)
  have hne38 : b3 ≠ b8 := by have := HRW.out.lt; have := HBB8.out; omega
  clear hq HR8 HROW8 HB8 HB6 HLF HOT HRW hBr hbel HBB8 hbt'
  generalize w5.drewN nq = w6 at *
  cases q
  case true =>
    have HN : Hid (¬ r.May W ring ⟨tu, tr', td, tl'⟩) := fun hm => by
      have h1 := hm.up
      have h2 := hm.left
      rw [HXR.out] at h1 h2
      have := HQQ.out.2 ⟨h1, h2⟩
      cases this
    go_wp2_with fail
    exact hnext (HSN.out _ HTE.out HN.out) HL6.out HR6.out HBR.out HO6.out
  case false =>
    have HM1 := Lib.hid (HQQ.out.1 rfl)
    clear HQQ
    go_upto_if 91 with fail
    go_step
    go_step
    go_step
    rename_i hKK
    refine hKK _ _ ?_
    clear hKK
    refine dtail B F M bt ot n tc W H m i x b3 b8 ring ts tu tr' td tl' r pre ks w0 w6 hlt hn16 hwh hW1 hW5 hxW hBF hBM hTB hpos hF3 hB3 hne38 IH HT HBR HO6 HR6 HT6 HL6 HXR HR HOKT HPRE HM1 _ _ _ _ _ _ _ _ _ _ _ _ _ _ _ _ _ _ _ _ _ _ _ _ _ _ _ _ _ _ _ _ _ _ _ _ _ _ _ _ _ _ _ _ _ _ _ _ _ _ _ _ _ _ _ _ _ _ _ _ _ _ _ _ _ _ _ _ _ _ _ _ _ _ _ _ _ _ _ _ _ _ _ _ _ _ _ _ _ _ _ _ _ _ _ _ _ _ _ _ _ _ _ _ _ _ _ _ _ _ _ _ _ _ _ _ _ _ _ _ _ _ _ _ _ _ _ _ _ _ _ _ _ _ _ _ _ _ _ _ _ _ _ _ _ _ _ _ _ _ _ _ _ _ _ _ _ _ _ _ _ _ _ _ _ _ _ ?_ ?_ ?_
    · intro u9 u92 u93 u94 u95 u96 u97 u98 u99 u100 u101 u102 u103 u104 u105 u106 u107 u108 u109 u110 u111 u112 u113 u114 u115 u116 u117 u118 u119 u120 u121 u122 u123 u124 u125 u126 u127 u128 u129 u130 u131 u132 u133 u134 u135 u136 u137 u138 u139 u140 u141 u142 u143 u144 u145 u146 u147 u148 u149 u150 u151 u152 u153 u154 u155 u156 u157 u158 u159 u160 u161 u162 u163 u164 w7 g1 g2 g3 g4 g5
      exact hnext (HSO.out _ HTE.out g1) g2 g3 g4 g5
    · intro u9 u92 u93 u94 u95 u96 u97 u98 u99 u100 u101 u102 u103 u104 u105 u106 u107 u108 u109 u110 u111 u112 u113 u114 u115 u116 u117 u118 u119 u120 u121 u122 u123 u124 u125 u126 u127 u128 u129 u130 u131 u132 u133 u134 u135 u136 u137 u138 u139 u140 u141 u142 u143 u144 u145 u146 u147 u148 u149 u150 u151 u152 u153 u154 u155 u156 u157 u158 u159 u160 u161 u162 u163 u164 w7 g1 g2 g3 g4 g5
      simp only [Exit.inBlock, if_true]
      exact hnext (HSN.out _ HTE.out g1) g2 g3 g4 g5
    · intro u9 u92 u93 u94 u95 u96 u97 u98 u99 u100 u101 u102 u103 u104 u105 u106 u107 u108 u109 u110 u111 u112 u113 u114 u115 u116 u117 u118 u119 u120 u121 u122 u123 u124 u125 u126 u127 u128 u129 u130 u131 u132 u133 u134 u135 u136 u137 u138 u139 u140 u141 u142 u143 u144 u145 u146 u147 u148 u149 u150 u151 u152 u153 u154 u155 u156 u157 u158 u159 u160 u161 u162 u163 u164 w7 g1 g2 g3 g4
      obtain ⟨suf, g5, g6⟩ := g2
      exact hret ⟨_, HSS.out _ HTE.out g1 suf g5, g6⟩ g3 g4
end Wg
end Go.Proofs.YthggpjpmjhaidaaDoor
