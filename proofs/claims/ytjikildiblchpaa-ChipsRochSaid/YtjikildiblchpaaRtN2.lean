/- WALK: rotor.newBoard: the loop over edges. -/
import Derived.Test.YtjikildiblchpaaRtN3
namespace Go.Proofs.Ytjikildiblchpaa
set_option linter.unusedSimpArgs false
set_option linter.unusedVariables false
open Go.RowKit Go.Lib
namespace Rt
open Tld Mem

theorem Two.start {w : World} {B bw : Nat} {vA vC : Value} {nA nC : Nat} {xA xC : List Value} (ha : w.ownsRow B 3 1 vA nA xA) (hc : w.ownsRow B 3 1 vC nC xC) (hd : ∀ b, vA.ownBlock = some b → vC.ownBlock ≠ some b) : Two w w B bw vA vC vA vC nA nC xA xC := ⟨ha, hc, hd, Loc.refl, Loc.refl, Chg.refl⟩
theorem Two.out {w w' : World} {B bw : Nat} {vA vC vA' vC' : Value} {nA nC nA' nC' : Nat} {xA xC xA' xC' : List Value} (h : Two w w' B bw vA vC vA' vC' nA nC xA xC) (ha : w.ownsRow B 3 1 vA nA' xA') (hc : w.ownsRow B 3 1 vC nC' xC') {u : World} (hu : Chg (fun k => k = bw) u w) (hB : u.heap.size ≤ B) : Chg (fun k => k = bw) u w' :=
  hu.trans h.chg fun b hb hy => by
    rcases hy with hy | hy | hy
    · exact hy
    · have := (ha.lt b hy).1; omega
    · have := (hc.lt b hy).1; omega
theorem chg_below {w0 w w' : World} {bw : Nat} (h : Below w0.heap.size w0 w) (hc : Chg (fun k => k = bw) w w') (hb : w0.heap.size ≤ bw) : Below w0.heap.size w0 w' :=
  ⟨hc.os.trans h.os, hc.tape.trans h.tape, hc.output.trans h.output, Nat.le_trans h.size hc.size, fun k hk => (hc.block k (Nat.lt_of_lt_of_le hk h.size) (by omega)).trans (h.block k hk)⟩
theorem chg_more {w w' w'' : World} {bw : Nat} (hc : Chg (fun k => k = bw) w w') (h : Below w'.heap.size w' w'') : Chg (fun k => k = bw) w w'' := hc.trans (Chg.below (X := fun _ => False) h) fun _ _ h => h.elim
set_option maxHeartbeats 8000000 in
set_option maxRecDepth 1000000 in
theorem nb2 (P s m : Nat) (f : Nat → Nat → Int) (bg bb bw : Nat) (vS vC vT : Value) (sa ca ea : Option Addr) (sc cn cc ec : Nat) (sz cz : List Int) (w0 w : World) (hs : s < P) (hgb : bg ≠ bw) (hbw : w0.heap.size ≤ bw)
    (HOK : Hid (GOk P m f)) (HGF : Hid (gfault (P : Int) m f = 0)) (HER : Hid (Mem.Rows w0 ea m 3 (fun i j => .int .i64 (f i j)))) (HG : Hid (Row w bg 24 [.int .i64 (P : Int), .slice ea m ec])) (HS : Hid (Ints.Is w0 sa P sz)) (HC : Hid (Ints.Is w0 ca cn cz)) (HBB : Hid (Row w bb 58 [.int .i64 (s : Int), .slice (some ⟨bw, 0, none⟩) P P, vS, vC, vT])) (HRW : Hid (Row w bw 25 (List.replicate P (.slice none 0 0)))) (HB : Hid (Below w0.heap.size w0 w))
    (c0 c5 c6 c7 c8 c9 c10 c12 c13 c14 c15 c16 c17 c18 c19 c20 c21 c22 c23 c24 c25 c26 c27 c28 c29 c30 c31 c32 c33 c34 c35 c36 c37 c38 c39 c40 c41 c42 c43 c44 c45 c46 c47 c48 c49 c50 c51 c52 c53 c54 c55 c56 c57 c58 c59 c60 c61 c62 c63 c64 c65 c66 c67 c68 c69 c70 c71 c72 c73 c74 c75 c76 c77 c78 c79 c80 c81 c82 c83 c84 c85 c86 c87 c88 c89 c90 c91 c92 c93 c94 c95 c96 c97 c98 c99 c100 c101 c102 c103 c104 c105 c106 c107 c108 c109 c110 c111 c112 c113 c114 c115 c116 c117 c118 c119 c120 c121 c122 c123 c124 c125 c126 c127 c128 c129 c130 c131 c132 c133 c134 c135 c136 c137 c138 c139 c140 c141 c142 c143 c144 c145 c146 c147 c148 c149 c150 c151 : Value) (Q : Exit → Act → World → Prop)
    (hbad : ∀ {u13 u14 u15 u16 u17 u53 u54 u55 u56 u57 u58 u59 u60 u61 u62 u63 u64 u65 u66 u67 u68 u69 u70 u71 u72 u73 u74 u75 u76 u77 u78 u79 u80 u81 u82 u83 u84 u85 u86 u87 u88 u89 u90 u91 u92 u93 u94 u95 u96 u97 u98 u99 u100 u101 u102 u103 u104 u105 u106 u107 u108 u109 u110 u111 u112 u113 u114 u115 u116 u117 u118 u119 u120 u121 u122 u123 u124 u125 u126 u127 u128 u129 u130 u131 u132 u133 u134 u135 u136 u137 u138 u139 u140 u141 u142 u143 u144 u145 u146 u147 u148 u149 u150 u151 : Value} {w' : World}, (∃ k, k < P ∧ ¬ SignOk s (fun k => deg f k m) k (sz.getD k 0)) → Chg (fun k => k = bw) w w' → Below w0.heap.size w0 w' → Q .ret ⟨#[c0, .int .i64 (s : Int), .slice sa P sc, .slice ca cn cc, .pointer (some ⟨bg, 0, none⟩), c5, c6, c7, .pointer none, .iface 59 (.int .i64 1), c10, .pointer (some ⟨bb, 0, none⟩), c12, u13, u14, u15, u16, u17, c18, c19, c20, c21, c22, c23, c24, c25, c26, c27, c28, c29, c30, c31, c32, c33, c34, c35, c36, c37, c38, c39, c40, c41, c42, c43, c44, c45, c46, c47, c48, c49, c50, c51, c52, u53, u54, u55, u56, u57, u58, u59, u60, u61, u62, u63, u64, u65, u66, u67, u68, u69, u70, u71, u72, u73, u74, u75, u76, u77, u78, u79, u80, u81, u82, u83, u84, u85, u86, u87, u88, u89, u90, u91, u92, u93, u94, u95, u96, u97, u98, u99, u100, u101, u102, u103, u104, u105, u106, u107, u108, u109, u110, u111, u112, u113, u114, u115, u116, u117, u118, u119, u120, u121, u122, u123, u124, u125, u126, u127, u128, u129, u130, u131, u132, u133, u134, u135, u136, u137, u138, u139, u140, u141, u142, u143, u144, u145, u146, u147, u148, u149, u150, u151], []⟩ w')
    (hchips : ∀ {u13 u14 u15 u16 u17 u53 u54 u55 u56 u57 u58 u59 u60 u61 u62 u63 u64 u65 u66 u67 u68 u69 u70 u71 u72 u73 u74 u75 u76 u77 u78 u79 u80 u81 u82 u83 u84 u85 u86 u87 u88 u89 u90 u91 u92 u93 u94 u95 u96 u97 u98 u99 u100 u101 u102 u103 u104 u105 u106 u107 u108 u109 u110 u111 u112 u113 u114 u115 u116 u117 u118 u119 u120 u121 u122 u123 u124 u125 u126 u127 u128 u129 u130 u131 u132 u133 u134 u135 u136 u137 u138 u139 u140 u141 u142 u143 u144 u145 u146 u147 u148 u149 u150 u151 : Value} {w' : World}, (∀ k, k < P → SignOk s (fun k => deg f k m) k (sz.getD k 0)) → cfault P s cz ≠ 0 → Chg (fun k => k = bw) w w' → Below w0.heap.size w0 w' → Q .ret ⟨#[c0, .int .i64 (s : Int), .slice sa P sc, .slice ca cn cc, .pointer (some ⟨bg, 0, none⟩), c5, c6, c7, .pointer none, .iface 59 (.int .i64 (cfault P s cz)), c10, .pointer (some ⟨bb, 0, none⟩), c12, u13, u14, u15, u16, u17, c18, c19, c20, c21, c22, c23, c24, c25, c26, c27, c28, c29, c30, c31, c32, c33, c34, c35, c36, c37, c38, c39, c40, c41, c42, c43, c44, c45, c46, c47, c48, c49, c50, c51, c52, u53, u54, u55, u56, u57, u58, u59, u60, u61, u62, u63, u64, u65, u66, u67, u68, u69, u70, u71, u72, u73, u74, u75, u76, u77, u78, u79, u80, u81, u82, u83, u84, u85, u86, u87, u88, u89, u90, u91, u92, u93, u94, u95, u96, u97, u98, u99, u100, u101, u102, u103, u104, u105, u106, u107, u108, u109, u110, u111, u112, u113, u114, u115, u116, u117, u118, u119, u120, u121, u122, u123, u124, u125, u126, u127, u128, u129, u130, u131, u132, u133, u134, u135, u136, u137, u138, u139, u140, u141, u142, u143, u144, u145, u146, u147, u148, u149, u150, u151], []⟩ w')
    (hok : ∀ {u13 u14 u15 u16 u17 u53 u54 u55 u56 u57 u58 u59 u60 u61 u62 u63 u64 u65 u66 u67 u68 u69 u70 u71 u72 u73 u74 u75 u76 u77 u78 u79 u80 u81 u82 u83 u84 u85 u86 u87 u88 u89 u90 u91 u92 u93 u94 u95 u96 u97 u98 u99 u100 u101 u102 u103 u104 u105 u106 u107 u108 u109 u110 u111 u112 u113 u114 u115 u116 u117 u118 u119 u120 u121 u122 u123 u124 u125 u126 u127 u128 u129 u130 u131 u132 u133 u134 u135 u136 u137 u138 u139 u140 u141 u142 u143 u144 u145 u146 u147 u148 u149 u150 u151 : Value} {w' : World}, (∀ k, k < P → SignOk s (fun k => deg f k m) k (sz.getD k 0)) → cfault P s cz = 0 → (∃ LV, Wys w' w.heap.size bw P (fun k => wayL f k m) LV) → Chg (fun k => k = bw) w w' → Below w0.heap.size w0 w' → Q .ret ⟨#[c0, .int .i64 (s : Int), .slice sa P sc, .slice ca cn cc, .pointer (some ⟨bg, 0, none⟩), c5, c6, c7, .pointer (some ⟨bb, 0, none⟩), .nilIface, c10, .pointer (some ⟨bb, 0, none⟩), c12, u13, u14, u15, u16, u17, c18, c19, c20, c21, c22, c23, c24, c25, c26, c27, c28, c29, c30, c31, c32, c33, c34, c35, c36, c37, c38, c39, c40, c41, c42, c43, c44, c45, c46, c47, c48, c49, c50, c51, c52, u53, u54, u55, u56, u57, u58, u59, u60, u61, u62, u63, u64, u65, u66, u67, u68, u69, u70, u71, u72, u73, u74, u75, u76, u77, u78, u79, u80, u81, u82, u83, u84, u85, u86, u87, u88, u89, u90, u91, u92, u93, u94, u95, u96, u97, u98, u99, u100, u101, u102, u103, u104, u105, u106, u107, u108, u109, u110, u111, u112, u113, u114, u115, u116, u117, u118, u119, u120, u121, u122, u123, u124, u125, u126, u127, u128, u129, u130, u131, u132, u133, u134, u135, u136, u137, u138, u139, u140, u141, u142, u143, u144, u145, u146, u147, u148, u149, u150, u151], []⟩ w')
    : Code.wp Try.prog ((frs 9 (Try.f20.body.getD .skip)).getD .skip) Q ⟨#[c0, .int .i64 (s : Int), .slice sa P sc, .slice ca cn cc, .pointer (some ⟨bg, 0, none⟩), c5, c6, c7, c8, c9, c10, .pointer (some ⟨bb, 0, none⟩), c12, c13, c14, c15, c16, c17, c18, c19, c20, c21, c22, c23, c24, c25, c26, c27, c28, c29, c30, c31, c32, c33, c34, c35, c36, c37, c38, c39, c40, c41, c42, c43, c44, c45, c46, c47, c48, c49, c50, c51, c52, c53, c54, c55, c56, c57, c58, c59, c60, c61, c62, c63, c64, c65, c66, c67, c68, c69, c70, c71, c72, c73, c74, c75, c76, c77, c78, c79, c80, c81, c82, c83, c84, c85, c86, c87, c88, c89, c90, c91, c92, c93, c94, c95, c96, c97, c98, c99, c100, c101, c102, c103, c104, c105, c106, c107, c108, c109, c110, c111, c112, c113, c114, c115, c116, c117, c118, c119, c120, c121, c122, c123, c124, c125, c126, c127, c128, c129, c130, c131, c132, c133, c134, c135, c136, c137, c138, c139, c140, c141, c142, c143, c144, c145, c146, c147, c148, c149, c150, c151], []⟩ w := by
  conv => arg 2; whnf

  have hbwl := HRW.out.lt
  have hbbw : bb ≠ bw := row_ne HBB.out HRW.out (by decide)
  have hm40 := HOK.out.m40
  have hP10 := HOK.out.p10
  have g1 := HG.out.cell 1
  dsimp only [List.getElem?_cons_succ, List.getElem?_cons_zero] at g1
  go_upto_region 10 with fail
  obtain ⟨B, hBe⟩ : ∃ B, B = w.heap.size := ⟨_, rfl⟩
  have HBE := Lib.hid hBe
  have hbwB : bw < B := by omega
  have hBw : B ≤ w.heap.size := by omega
  have hBw2 : w.heap.size ≤ B := by omega
  clear hBe g1
  go_loopw [56] (fun u wr => ∃ (i : Nat) (LV : List Value), i ≤ m ∧ u = .int .i64 (i : Int) ∧ Wys wr B bw P (fun k => wayL f k i) LV ∧ Chg (fun k => k = bw) w wr) (fun u _ => m - (intOf u).toNat)
  case atStart => exact ⟨0, _, Nat.zero_le _, rfl, Wys.start HRW.out, Chg.refl⟩
  case round =>
    clear HRW
    obtain ⟨i, LV, him, rfl, hwy, hcg⟩ := hrel
    have HWY := Lib.hid hwy
    have HCG := Lib.hid hcg
    clear hwy hcg
    have hszr : w.heap.size ≤ wr.heap.size := HCG.out.size
    by_cases hlt : i < m
    · --{ROUND
      obtain ⟨b, off, rfl, hbl, hrest⟩ := HER.out i hlt
      clear hrest
      have HBR := Lib.hid (chg_below HB.out HCG.out hbw)
      have l1 := edges_range (HER.out.keep HBR.out) hlt
      have hi2 : (i : Int) < (m : Int) := by omega
      have hN := HOK.out.edge i hlt
      have HEN := Lib.hid hN
      obtain ⟨a, ha⟩ : ∃ a, a = eA f i := ⟨_, rfl⟩
      obtain ⟨c, hcc⟩ : ∃ c, c = eB f i := ⟨_, rfl⟩
      obtain ⟨tt, htt⟩ : ∃ tt, tt = eT f i := ⟨_, rfl⟩
      rw [hN.a, hN.b, hN.t, ← ha, ← hcc, ← htt] at l1
      have haP : a < P := by rw [ha]; exact hN.al
      have hcP : c < P := by rw [hcc]; exact hN.bl
      have hac : a ≠ c := by rw [ha, hcc]; exact hN.ne
      have ht100 : tt ≤ 100 := by rw [htt]; exact hN.th
      have HAE := Lib.hid ha
      have HCE := Lib.hid hcc
      have HTE := Lib.hid htt
      clear ha hcc htt hN
      have hrow : Row (wr.alloc (.cells #[.int .i64 (a : Int), .int .i64 (c : Int), .int .i64 (tt : Int)] 27)) wr.heap.size 27 [.int .i64 (a : Int), .int .i64 (c : Int), .int .i64 (tt : Int)] := row_alloc wr _ _
      have hbn2 : Below wr.heap.size wr (wr.alloc (.cells #[.int .i64 (a : Int), .int .i64 (c : Int), .int .i64 (tt : Int)] 27)) := (Below.refl _ _).alloc (Nat.le_refl _) _
      have HE := Lib.hid hrow
      have HWY := Lib.hid (HWY.out.keep hbn2)
      have HCG := Lib.hid (chg_more HCG.out hbn2)
      clear hrow hbn2
      obtain ⟨b13, hb13⟩ : ∃ b, b = wr.heap.size := ⟨_, rfl⟩
      have h13 : w.heap.size ≤ b13 := by omega
      have e2 := HE.out.cell 2
      dsimp only [List.getElem?_cons_succ, List.getElem?_cons_zero] at e2
      go_wp2_with (refine wpList_load_mid rfl 27 _ rfl b (off + i * 3) rfl _ _ l1 Try.underlying27 rfl infoEdge ?_)
      rw [← hb13] at HE e2 ⊢
      clear l1 hb13
      generalize wr.alloc (.cells #[.int .i64 (a : Int), .int .i64 (c : Int), .int .i64 (tt : Int)] 27) = w2 at *
      go_loopw [62] (fun u wx => ∃ (t : Nat) (LV : List Value), t ≤ tt ∧ u = .int .i64 (t : Int) ∧ Wys wx B bw P (wayT f i t) LV ∧ Row wx b13 27 [.int .i64 (a : Int), .int .i64 (c : Int), .int .i64 (tt : Int)] ∧ Chg (fun k => k = bw) w wx) (fun u _ => tt - (intOf u).toNat)
      case atStart =>
        refine ⟨0, LV, Nat.zero_le _, rfl, ?_, HE.out, HCG.out⟩
        have e : wayT f i 0 = fun k => wayL f k i := funext fun k => wayT_zero
        rw [e]
        exact HWY.out
      case round =>
        clear HWY HE HCG e2
        obtain ⟨t, LX, htt, rfl, hwy, he, hcg⟩ := hrel
        have HWY := Lib.hid hwy
        have HE := Lib.hid he
        have HCG := Lib.hid hcg
        clear hwy he hcg
        by_cases hlt2 : t < tt
        · --{INNER
          have HBB2 := Lib.hid (row_chg HBB.out HCG.out hbbw)
          obtain ⟨vX, hvA, hoA⟩ := HWY.out.own a haP
          obtain ⟨vY, hvC, hoC⟩ := HWY.out.own c hcP
          have HVA := Lib.hid hvA
          have HVC := Lib.hid hvC
          have HOA := Lib.hid hoA
          have HOC := Lib.hid hoC
          have HT2 := Lib.hid (Two.start (bw := bw) hoA hoC (HWY.out.dis a c vX vY hac hvA hvC))
          have HEN0 : Hid (∀ j, j < m → EdgeN P f j) := HOK.out.edge
          have hnA : (wayT f i t a).length ≤ 100000 := Nat.le_trans (wayT_len HEN0.out hlt hm40 (by omega)) (by decide)
          have hnC : (wayT f i t c).length ≤ 100000 := Nat.le_trans (wayT_len HEN0.out hlt hm40 (by omega)) (by decide)
          have hBx : B ≤ wr.heap.size := Nat.le_trans hBw HCG.out.size
          have HWR := Lib.hid HWY.out.row
          clear hvA hvC hoA hoC
          go_upto_region 14 with fail
          refine wp_region_noPanic ?_
          refine app2 bb bw b13 P a c vX vY _ _ _ _ B _ LX (tt : Int) wr hac haP hcP hnA hnC hBx HBB2 (Lib.hid rfl) HE HWR HVA HVC HT2 _ _ _ _ _ _ _ _ _ _ _ _ _ _ _ _ _ _ _ _ _ _ _ _ _ _ _ _ _ _ _ _ _ _ _ _ _ _ _ _ _ _ _ _ _ _ _ _ _ _ _ _ _ _ _ _ _ _ _ _ _ _ _ _ _ _ _ _ _ _ _ _ _ _ _ _ _ _ _ _ _ _ _ _ _ _ _ _ _ _ _ _ _ _ _ _ _ _ _ _ _ _ _ _ _ _ _ _ _ _ _ _ _ _ _ _ _ _ _ _ _ _ _ _ _ _ _ _ _ _ _ _ _ _ _ _ _ _ _ _ _ _ _ _ _ _ _ _ _ _ _ ?_
          intro u64 u65 u66 u67 u68 u69 u70 u71 u72 u73 u74 u75 u76 u77 u78 u79 u80 u81 u82 u83 u84 u85 u86 u87 u88 u89 u90 u91 u92 u93 u94 u95 u96 u97 u98 u99 u100 u101 w' vX' vY' hR hT
          have HEa : Hid (Row w' b13 27 [.int .i64 (a : Int), .int .i64 (c : Int), .int .i64 (tt : Int)]) := row_chg HE.out hT.chg (fun hx => by
            rcases hx with hx | hx | hx
            · exact row_ne HE.out HWR.out (by decide) hx
            · exact own_ne HOA.out HE.out (by decide) hx
            · exact own_ne HOC.out HE.out (by decide) hx)
          have HCGa := Lib.hid (hT.out HOA.out HOC.out HCG.out hBw2)
          have e1 : wayT f i (t + 1) a = wayT f i t a ++ [c] := by rw [HAE.out, HCE.out]; exact wayT_a
          have e2 : wayT f i (t + 1) c = wayT f i t c ++ [a] := by rw [HAE.out, HCE.out]; exact wayT_b HEN.out
          have HWYa : Hid (Wys w' B bw P (wayT f i (t + 1)) ((LX.set a vX').set c vY')) := by
            refine HWY.out.two hac haP hcP HVA.out HVC.out hR (by rw [e1, e2, intsL_snoc, intsL_snoc]; exact hT) (by rw [e1, List.length_append]; rfl) (by rw [e2, List.length_append]; rfl) (fun k h1 h2 => wayT_no (by rw [← HAE.out]; exact h1) (by rw [← HCE.out]; exact h2)) hbwB
          clear hR hT e1 e2
          go_wp2_with fail
          go_roundw
          case rel => exact ⟨t + 1, _, by omega, by go_num, HWYa.out, HEa.out, HCGa.out⟩
          case measure => simp [intOf]; omega
          --}
        · obtain rfl : t = tt := by omega
          have HWYa : Hid (Wys wr B bw P (fun k => wayL f k (i + 1)) LX) := by
            have e : wayT f i t = fun k => wayL f k (i + 1) := funext fun k => by rw [HTE.out]; rfl
            rw [← e]
            exact HWY.out
          go_wp2_with fail
          go_roundw
          case rel => exact ⟨i + 1, LX, by omega, by go_num, HWYa.out, HCG.out⟩
          case measure => simp [intOf]; omega
      --}
    · --{END
      obtain rfl : i = m := by omega
      have HBR := Lib.hid (chg_below HB.out HCG.out hbw)
      have HBB2 := Lib.hid (row_chg HBB.out HCG.out hbbw)
      have HG2 := Lib.hid (row_chg HG.out HCG.out hgb)
      go_upto_if 57 with fail
      go_step
      go_step
      go_step
      apply_assumption
      refine nb3 P s i f bg bb bw B LV vS vC vT sa ca ea sc cn cc ec sz cz w0 wr hP10 hs (by omega) HGF (Lib.hid (HER.out.keep HBR.out)) HG2 (Lib.hid (HS.out.keep HBR.out)) (Lib.hid (HC.out.keep HBR.out)) HBB2 HWY _ _ _ _ _ _ _ _ _ _ _ _ _ _ _ _ _ _ _ _ _ _ _ _ _ _ _ _ _ _ _ _ _ _ _ _ _ _ _ _ _ _ _ _ _ _ _ _ _ _ _ _ _ _ _ _ _ _ _ _ _ _ _ _ _ _ _ _ _ _ _ _ _ _ _ _ _ _ _ _ _ _ _ _ _ _ _ _ _ _ _ _ _ _ _ _ _ _ _ _ _ _ _ _ _ _ _ _ _ _ _ _ _ _ _ _ _ _ _ _ _ _ _ _ _ _ _ _ _ _ _ _ _ _ _ _ _ _ _ _ _ _ _ _ _ _ _ _ ?_ ?_ ?_
      · intro u14 u15 u16 u17 u104 u105 u106 u107 u108 u109 u110 u111 u112 u113 u114 u115 u116 u117 u118 u119 u120 u121 u122 u123 u124 u125 u126 u127 u128 u129 u130 u131 u132 u133 u134 u135 u136 u137 u138 u139 u140 u141 u142 u143 u144 u145 u146 u147 u148 u149 u150 u151 w' h1 hb
        exact hbad h1 (chg_more HCG.out hb) (HBR.out.trans (hb.mono HBR.out.size))
      · intro u14 u15 u16 u17 u104 u105 u106 u107 u108 u109 u110 u111 u112 u113 u114 u115 u116 u117 u118 u119 u120 u121 u122 u123 u124 u125 u126 u127 u128 u129 u130 u131 u132 u133 u134 u135 u136 u137 u138 u139 u140 u141 u142 u143 u144 u145 u146 u147 u148 u149 u150 u151 w' h1 h2 hb
        exact hchips h1 h2 (chg_more HCG.out hb) (HBR.out.trans (hb.mono HBR.out.size))
      · intro u14 u15 u16 u17 u104 u105 u106 u107 u108 u109 u110 u111 u112 u113 u114 u115 u116 u117 u118 u119 u120 u121 u122 u123 u124 u125 u126 u127 u128 u129 u130 u131 u132 u133 u134 u135 u136 u137 u138 u139 u140 u141 u142 u143 u144 u145 u146 u147 u148 u149 u150 u151 w' h1 h2 hb
        exact hok h1 h2 ⟨LV, by rw [← HBE.out]; exact HWY.out.keep hb⟩ (chg_more HCG.out hb) (HBR.out.trans (hb.mono HBR.out.size))
      --}
end Rt
end Go.Proofs.Ytjikildiblchpaa
