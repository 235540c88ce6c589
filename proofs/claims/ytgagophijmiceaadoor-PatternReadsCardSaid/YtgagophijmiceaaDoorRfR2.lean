/- WALK: the document's edenref1.ParseRuns: one pass. -/
import Derived.Test.YtgagophijmiceaaDoorRfR1
namespace Go.Proofs.YtgagophijmiceaaDoor
set_option linter.unusedSimpArgs false
set_option linter.unusedVariables false
open Go.RowKit
namespace Pr
open Tld Mem Bl Pn Pw Rd

theorem cnt_numv {ds : List UInt8} (hne : ds ≠ []) (h : ¬ (numv ds < 2 ∨ 6 < ds.length)) : numv ds = ((cnt ds : Nat) : Int) := by
  have hv : numv ds = val ds := by
    unfold numv
    split
    · rfl
    · rename_i hg
      exfalso
      apply h
      left
      unfold numv
      rw [if_neg hg]
      decide
  unfold cnt
  rw [if_neg hne]
  rw [hv] at h ⊢
  omega
theorem wr_big2 {z : Int} {k : Nat} (h : z = (k : Int)) (hk : k ≤ 100000000) : wrap64 z = (k : Int) := by rw [h]; unfold wrap64; omega
set_option maxHeartbeats 16000000 in
set_option maxRecDepth 1000000 in
theorem rf_pass (w0 w : World) (s : ByteArray) (rb nb pb g W H N N2 i row col : Nat) (F : Nat → Nat) (hs : s.size ≤ 40000) (hi : i ≤ s.size) (hV : Vec w g N F) (hP : Row w pb 35 (boxP (W : Nat) (H : Nat) (some ⟨g, 0, none⟩) N N2)) (hR : Row w rb 35 noPat) (hZ : Row w nb 35 noPat) (hrb : w0.heap.size ≤ rb) (hb : Below w0.heap.size w0 w) (hne : pb ≠ g ∧ rb ≠ g ∧ nb ≠ g ∧ rb ≠ pb ∧ w0.heap.size ≤ g) (hN : N = W * H) (hW : W ≤ 100) (hH : H ≤ 100) (hcl : col ≤ W) (hrl : row ≤ H)
    (c1 c3 c4 c9 c13 c14 c15 c16 c17 c18 c19 c20 c21 c22 c23 c24 c25 c26 c27 c28 c29 c30 c31 c32 c33 c34 c35 c36 c37 c38 c39 c40 c41 c42 c43 c44 c45 c46 c47 c48 c49 c50 c51 c52 c53 c54 c55 c56 c57 c58 c59 c60 c61 c62 c63 c64 c65 c66 c67 c68 c69 c70 c71 c72 c73 c74 c75 c76 c77 c78 c79 c80 c81 c82 c83 c84 c85 c86 c87 c88 c89 c90 c91 c92 c93 c94 c95 c96 c97 c98 c99 c100 c101 c102 c103 c104 c105 c106 c107 c108 c109 c110 c111 c112 c113 c114 c115 c116 c117 c118 c119 c120 c121 c122 c123 c124 c125 c126 c127 c128 c129 c130 c131 c132 c133 c134 c135 c136 c137 c138 c139 c140 c141 c142 c143 c144 c145 c146 c147 c148 c149 c150 c151 c152 c153 c154 c155 c156 c157 c158 c159 c160 c161 c162 c163 c164 c165 c166 c167 c168 c169 c170 c171 c172 c173 c174 c175 c176 c177 c178 c179 c180 c181 c182 c183 c184 c185 c186 : Value) (Q : Exit → Act → World → Prop)
    (hnext : ∀ {u3 u4 u13 u14 u15 u16 u17 u18 u19 u45 u46 u47 u48 u49 u50 u51 u52 u53 u54 u55 u56 u57 u58 u59 u60 u61 u62 u63 u64 u65 u66 u67 u68 u69 u70 u71 u72 u73 u74 u75 u76 u77 u78 u79 u80 u81 u82 u83 u84 u85 u86 u87 u88 u89 u90 u91 u92 u93 u94 u95 u96 u97 u98 u99 u100 u101 u102 u103 u104 u105 u106 u107 u108 u109 u110 u111 u112 u113 u114 u115 u116 u117 u118 u119 u120 u121 u122 u123 u124 u125 u126 u127 u128 u129 u130 u131 u132 u133 u134 u135 u136 u137 u138 u139 u140 u141 u142 u143 u144 u145 u146 u147 u148 u149 u150 u151 u152 u153 u154 u155 u156 u157 u158 u159 u160 u161 u162 u163 u164 u165 u166 u167 u168 u169 u170 u171 u172 u173 u174 u175 u176 u177 u178 u179 u180 u181 u182 u183 u184 u185 u186 : Value} {w' : World} (i' row' col' : Nat) (F' : Nat → Nat), step s.data.toList W H i row col F = .go i' row' col' F' → Vec w' g N F' → Row w' pb 35 (boxP (W : Nat) (H : Nat) (some ⟨g, 0, none⟩) N N2) → Row w' rb 35 noPat → Row w' nb 35 noPat → Below w0.heap.size w0 w' → Q .normal ⟨#[.string s, c1, .pointer (some ⟨rb, 0, none⟩), u3, u4, .pointer (some ⟨nb, 0, none⟩), .int .i64 ((W : Nat) : Int), .int .i64 ((H : Nat) : Int), .int .i64 ((i' : Nat) : Int), c9, .pointer (some ⟨pb, 0, none⟩), .int .i64 ((col' : Nat) : Int), .int .i64 ((row' : Nat) : Int), u13, u14, u15, u16, u17, u18, u19, c20, c21, c22, c23, c24, c25, c26, c27, c28, c29, c30, c31, c32, c33, c34, c35, c36, c37, c38, c39, c40, c41, c42, c43, c44, u45, u46, u47, u48, u49, u50, u51, u52, u53, u54, u55, u56, u57, u58, u59, u60, u61, u62, u63, u64, u65, u66, u67, u68, u69, u70, u71, u72, u73, u74, u75, u76, u77, u78, u79, u80, u81, u82, u83, u84, u85, u86, u87, u88, u89, u90, u91, u92, u93, u94, u95, u96, u97, u98, u99, u100, u101, u102, u103, u104, u105, u106, u107, u108, u109, u110, u111, u112, u113, u114, u115, u116, u117, u118, u119, u120, u121, u122, u123, u124, u125, u126, u127, u128, u129, u130, u131, u132, u133, u134, u135, u136, u137, u138, u139, u140, u141, u142, u143, u144, u145, u146, u147, u148, u149, u150, u151, u152, u153, u154, u155, u156, u157, u158, u159, u160, u161, u162, u163, u164, u165, u166, u167, u168, u169, u170, u171, u172, u173, u174, u175, u176, u177, u178, u179, u180, u181, u182, u183, u184, u185, u186], []⟩ w')
    (hret : ∀ (a' : Act) (w' : World) (v : Value), (results Tryd.f12 a'.tmps).run Tryd.prog w' = .ok v w' → a'.defers = [] → ((∃ p e, step s.data.toList W H i row col F = .bad p e ∧ v = .tuple #[.agg #[.int .i64 0, .int .i64 0, .slice none 0 0], .int .i64 ((p : Nat) : Int), .int .i64 e]) ∨ (∃ F', step s.data.toList W H i row col F = .ok F' ∧ v = .tuple #[.agg (boxP (W : Nat) (H : Nat) (some ⟨g, 0, none⟩) N N2).toArray, .int .i64 0, .int .i64 0] ∧ Vec w' g N F')) → Below w0.heap.size w0 w' → Q .ret a' w')
    : Code.wp Tryd.prog ((Pc.blk 1 (Tryd.f12.body.getD .skip)).getD .skip) Q ⟨#[.string s, c1, .pointer (some ⟨rb, 0, none⟩), c3, c4, .pointer (some ⟨nb, 0, none⟩), .int .i64 ((W : Nat) : Int), .int .i64 ((H : Nat) : Int), .int .i64 ((i : Nat) : Int), c9, .pointer (some ⟨pb, 0, none⟩), .int .i64 ((col : Nat) : Int), .int .i64 ((row : Nat) : Int), c13, c14, c15, c16, c17, c18, c19, c20, c21, c22, c23, c24, c25, c26, c27, c28, c29, c30, c31, c32, c33, c34, c35, c36, c37, c38, c39, c40, c41, c42, c43, c44, c45, c46, c47, c48, c49, c50, c51, c52, c53, c54, c55, c56, c57, c58, c59, c60, c61, c62, c63, c64, c65, c66, c67, c68, c69, c70, c71, c72, c73, c74, c75, c76, c77, c78, c79, c80, c81, c82, c83, c84, c85, c86, c87, c88, c89, c90, c91, c92, c93, c94, c95, c96, c97, c98, c99, c100, c101, c102, c103, c104, c105, c106, c107, c108, c109, c110, c111, c112, c113, c114, c115, c116, c117, c118, c119, c120, c121, c122, c123, c124, c125, c126, c127, c128, c129, c130, c131, c132, c133, c134, c135, c136, c137, c138, c139, c140, c141, c142, c143, c144, c145, c146, c147, c148, c149, c150, c151, c152, c153, c154, c155, c156, c157, c158, c159, c160, c161, c162, c163, c164, c165, c166, c167, c168, c169, c170, c171, c172, c173, c174, c175, c176, c177, c178, c179, c180, c181, c182, c183, c184, c185, c186], []⟩ w := by
  conv => arg 2; whnf
  have HSZ := Lib.hid hs
  have HI := Lib.hid hi
  have HV := Lib.hid hV
  have HP := Lib.hid hP
  have HR := Lib.hid hR
  have HZ := Lib.hid hZ
  have HRB := Lib.hid hrb
  have HB := Lib.hid hb
  have HNE := Lib.hid hne
  have HN := Lib.hid hN
  have HWB := Lib.hid hW
  have HHB := Lib.hid hH
  have HCL := Lib.hid hcl
  have HRL := Lib.hid hrl
  clear hs hi hV hP hR hZ hrb hb hne hN hW hH hcl hrl
  go_upto_block 2 with fail
  apply rf_skip (w := w) (s := s) (i := i)
  case hs => exact HSZ.out
  case hi => exact HI.out
  case hnext =>
  intro u45 u46 u47 u48 u49 u50 u51 u52 u53 u54 u55 u56 u57 u58 u59 u60 u61 u62 w1 hw1
  subst hw1
  obtain ⟨j, hj⟩ : ∃ j, j = i + bln s i := ⟨_, rfl⟩
  rw [← hj]
  have HJE : Hid (j ≤ s.size) := Lib.hid (by rw [hj]; exact bln_le s i HI.out)
  obtain ⟨ds, hds⟩ : ∃ ds, ds = dgs s.data.toList j := ⟨_, rfl⟩
  have HDS := Lib.hid hds
  have HS2 : Hid (step s.data.toList W H i row col F = stepJ s.data.toList W H j row col F ds) := Lib.hid (by rw [hds, hj]; rfl)
  clear hj hds
  have HALL : Hid (∀ b ∈ ds, digB b = true) := Lib.hid (by rw [HDS.out]; exact digs_all s j)
  have HLT : Hid (∀ q, q < ds.length → j + q < s.size ∧ ds.getD q 0 = s.data.toList.getD (j + q) 0 ∧ digB (s.data.toList.getD (j + q) 0) = true) := Lib.hid (by rw [HDS.out]; exact fun q hq => digs_lt hq)
  have HLE : Hid (j + ds.length ≤ s.size) := Lib.hid (by rw [HDS.out]; exact digs_le s j HJE.out)
  have HEND : Hid (j + ds.length < s.size → digB (s.data.toList.getD (j + ds.length) 0) = false) := Lib.hid (by rw [HDS.out]; exact digs_end)
  obtain ⟨z, hz⟩ : ∃ z, z = j + ds.length := ⟨_, rfl⟩
  have HZE := Lib.hid hz
  have HZB : Hid (z ≤ 40000) := Lib.hid (by rw [hz]; exact Nat.le_trans HLE.out HSZ.out)
  obtain ⟨n, hn⟩ : ∃ n, n = cnt ds := ⟨_, rfl⟩
  have HCN := Lib.hid hn
  clear hn hz
  obtain ⟨q, hq⟩ : ∃ q, q = decide (ds ≠ []) := ⟨_, rfl⟩
  have HQ0 := Lib.hid hq
  have HM0 := Lib.hid (Number_any s j w1 (by have := HSZ.out; omega) HJE.out)
  rw [← dgs_digs, ← HDS.out, ← numv_num, ← HZE.out] at HM0
  obtain ⟨m, hm⟩ : ∃ m, m = numv ds := ⟨_, rfl⟩
  rw [← hm] at HM0
  have HM := Lib.hid hm
  clear hq hm
  go_upto_region 15 with fail
  go_cut [79] from 64 to 78 (fun v wx => v = .bool q ∧ w1 = wx)
  case first =>
    by_cases hds0 : ds = []
    · have HQ : Hid (q = false) := Lib.hid (by rw [HQ0.out]; exact decide_eq_false (fun h => h hds0))
      have hz0 : z = j := by rw [HZE.out, hds0]; rfl
      by_cases hjs : j < s.size
      · have hg := get_drop s hjs
        have hx := HEND.out (by rw [← HZE.out, hz0]; exact hjs)
        rw [← HZE.out, hz0] at hx
        obtain ⟨x, hxx⟩ : ∃ x, x = s.data.toList.getD j 0 := ⟨_, rfl⟩
        rw [← hxx] at hg hx
        have hji : (j : Int) < (s.size : Int) := by omega
        clear hxx hz0 hds0
        have hnd : (x.toNat : Int) < 48 ∨ (57 : Int) < (x.toNat : Int) := by
          unfold digB at hx
          have h := of_decide_eq_false hx
          omega
        clear hx
        rcases hnd with h1 | h1
        · have hn2 : ¬ (48 : Int) ≤ (x.toNat : Int) := by omega
          clear h1
          go_wp2_with fail
          go_meet
          case rel => exact ⟨by rw [HQ.out], rfl⟩
        · have h48 : (48 : Int) ≤ (x.toNat : Int) := by omega
          have hn2 : ¬ (x.toNat : Int) ≤ 57 := by omega
          clear h1
          go_wp2_with fail
          go_meet
          case rel => exact ⟨by rw [HQ.out], rfl⟩
      · have hji : ¬ (j : Int) < (s.size : Int) := by omega
        clear hz0 hds0
        go_wp2_with fail
        go_meet
        case rel => exact ⟨by rw [HQ.out], rfl⟩
    · have HQ : Hid (q = true) := Lib.hid (by rw [HQ0.out]; exact decide_eq_true hds0)
      have h0 := HLT.out 0 (List.length_pos_iff.2 hds0)
      rw [Nat.add_zero] at h0
      have hjs := h0.1
      have hx := h0.2.2
      have hg := get_drop s hjs
      obtain ⟨x, hxx⟩ : ∃ x, x = s.data.toList.getD j 0 := ⟨_, rfl⟩
      rw [← hxx] at hg hx
      have hji : (j : Int) < (s.size : Int) := by omega
      have hxd := dig_num hx
      have h48 : (48 : Int) ≤ (x.toNat : Int) := by omega
      have h57 : (x.toNat : Int) ≤ 57 := by omega
      clear hxx h0 hx hxd hds0
      go_wp2_with fail
      go_meet
      case rel => exact ⟨by rw [HQ.out], rfl⟩
  case rest =>
  obtain ⟨rfl, rfl⟩ := hcut
  have E6 : Hid (wrap64 ((j : Int) + 6) = ((j + 6 : Nat) : Int)) := Lib.hid (wr_nat (by push_cast; rfl) (by have := HJE.out; have := HSZ.out; omega))
  by_cases hbt : ds ≠ [] ∧ (numv ds < 2 ∨ 6 < ds.length)
  · have HST : Hid (step s.data.toList W H i row col F = .bad j 2) := Lib.hid (by rw [HS2.out]; unfold stepJ; rw [if_pos hbt])
    obtain rfl : q = true := by rw [HQ0.out]; exact decide_eq_true hbt.1
    have hbt2 := hbt.2
    rw [← HM.out] at hbt2
    clear hbt HQ0
    by_cases hm2 : m < 2
    · clear hbt2
      go_wp2_with fail
      refine HM0.out.mono ?_
      rintro e2 w2 ⟨rfl, rfl⟩
      have l5 := row_range HZ.out
      go_wp2_with (first | (refine wpList_load_mid rfl 35 _ rfl nb 0 rfl _ _ l5 Tryd.underlying35 rfl infoPat ?_) | (refine Ops.wpList_store_arr rfl 35 _ _ rfl rb rfl 35 noPat noPat rfl HR.out rfl infoPat noPat_one ?_; intro w5 hr5 ho5))
      refine hret _ _ _ (results_pat3 (t := 2) (u := 3) (v := 4) (e := .int .i64 ((j : Nat) : Int)) (f := .int .i64 2) rfl _ _ hr5 rfl rfl rfl rfl) rfl ?_ (HB.out.trans (ho5.below HRB.out))
      exact .inl ⟨_, _, HST.out, rfl⟩
    · have hgt : ((j + 6 : Nat) : Int) < (z : Int) := by
        have := HZE.out
        rcases hbt2 with h | h
        · exact absurd h hm2
        · omega
      clear hbt2
      go_wp2_with fail
      refine HM0.out.mono ?_
      rintro e2 w2 ⟨rfl, rfl⟩
      have e6 := E6.out
      have e6' := wr_same e6
      have l5 := row_range HZ.out
      go_wp2_with (first | (refine wpList_load_mid rfl 35 _ rfl nb 0 rfl _ _ l5 Tryd.underlying35 rfl infoPat ?_) | (refine Ops.wpList_store_arr rfl 35 _ _ rfl rb rfl 35 noPat noPat rfl HR.out rfl infoPat noPat_one ?_; intro w5 hr5 ho5))
      refine hret _ _ _ (results_pat3 (t := 2) (u := 3) (v := 4) (e := .int .i64 ((j : Nat) : Int)) (f := .int .i64 2) rfl _ _ hr5 rfl rfl rfl rfl) rfl ?_ (HB.out.trans (ho5.below HRB.out))
      exact .inl ⟨_, _, HST.out, rfl⟩
  · have HNB := Lib.hid hbt
    clear hbt
    go_upto_if 79 with fail
    go_cut [8, 14, 15, 16] from 80 to 97 (fun v8 v14 v15 v16 wx => v8 = .int .i64 ((z : Nat) : Int) ∧ v14 = .int .i64 ((n : Nat) : Int) ∧ w1 = wx)
    case first =>
      by_cases hds0 : ds = []
      · obtain rfl : q = false := by rw [HQ0.out]; exact decide_eq_false (fun h => h hds0)
        have HZ0 : Hid (z = j) := Lib.hid (by rw [HZE.out, hds0]; rfl)
        have HN1 : Hid (n = 1) := Lib.hid (by rw [HCN.out, cnt, if_pos hds0])
        clear hds0 HQ0
        go_wp2_with fail
        go_meet
        case rel => exact ⟨by rw [HZ0.out], by rw [HN1.out]; rfl, rfl⟩
      · obtain rfl : q = true := by rw [HQ0.out]; exact decide_eq_true hds0
        have HMN : Hid (m = (n : Int)) := Lib.hid (by rw [HM.out, HCN.out]; exact cnt_numv hds0 (fun h => HNB.out ⟨hds0, h⟩))
        have hm2 : ¬ m < 2 := by have h := fun h => HNB.out ⟨hds0, .inl h⟩; rw [← HM.out] at h; exact h
        have hgt : ¬ ((j + 6 : Nat) : Int) < (z : Int) := by have h : ¬ 6 < ds.length := fun h => HNB.out ⟨hds0, .inr h⟩; have := HZE.out; omega
        clear hds0 HQ0
        go_wp2_with fail
        refine HM0.out.mono ?_
        rintro e2 w2 ⟨rfl, rfl⟩
        have e6 := E6.out
        have e6' := wr_same e6
        go_wp2_with fail
        go_meet
        case rel => exact ⟨rfl, by rw [HMN.out], rfl⟩
    case rest =>
    obtain ⟨rfl, rfl, rfl⟩ := hcut
    have HNB9 : Hid (n ≤ 10000000) := Lib.hid (by
      by_cases hds0 : ds = []
      · rw [HCN.out, cnt, if_pos hds0]; decide
      · have h := cnt_num HALL.out hds0 (fun h => HNB.out ⟨hds0, h⟩)
        have h2 := (macc_b HALL.out ds.length).2
        rw [List.take_length] at h2
        rw [← HCN.out] at h
        omega)
    have hnb9 := HNB9.out
    by_cases hzs : z < s.size
    · have hg := get_drop s hzs
      have hzi : ¬ (s.size : Int) ≤ (z : Int) := by omega
      obtain ⟨x, hx⟩ : ∃ x, x = s.data.toList.getD z 0 := ⟨_, rfl⟩
      rw [← hx] at hg
      have HZS := Lib.hid hzs
      obtain ⟨z1, hz1⟩ : ∃ z1, z1 = z + 1 := ⟨_, rfl⟩
      have HZ1 := Lib.hid hz1
      have EZ : Hid (wrap64 ((z : Int) + 1) = (z1 : Int)) := Lib.hid (wr_nat (by rw [hz1]; push_cast; rfl) (by have := HZB.out; omega))
      clear hz1
      have HST : Hid (step s.data.toList W H i row col F = stepT s.data.toList W H j row col F ds x) := Lib.hid (by
        rw [HS2.out]
        unfold stepJ
        rw [if_neg HNB.out, if_neg (by rw [← Lib.size_eq, ← HZE.out]; omega), ← HZE.out, ← hx])
      clear hx
      by_cases h98 : x = 98
      · have HST2 : Hid (step s.data.toList W H i row col F = if H ≤ row ∨ W < col + n then .bad j 1 else .go (z + 1) row (col + n) (if x = 111 then fill F (row * W + col) n else F)) := Lib.hid (by
          rw [HST.out, stepT, if_pos (.inl h98), ← HCN.out, ← HZE.out])
        have q98 : ((x.toNat : Int) == 98) = true := byte_eq (k := 98) (by decide) h98
        clear h98
        by_cases hrow : H ≤ row
        · have HST3 : Hid (step s.data.toList W H i row col F = .bad j 1) := Lib.hid (by rw [HST2.out, if_pos (.inl hrow)])
          have hge : (H : Int) ≤ (row : Int) := by omega
          clear hrow
          have l5 := row_range HZ.out
          go_wp2_with (first | (refine wpList_load_mid rfl 35 _ rfl nb 0 rfl _ _ l5 Tryd.underlying35 rfl infoPat ?_) | (refine Ops.wpList_store_arr rfl 35 _ _ rfl rb rfl 35 noPat noPat rfl HR.out rfl infoPat noPat_one ?_; intro w5 hr5 ho5))
          refine hret _ _ _ (results_pat3 (t := 2) (u := 3) (v := 4) (e := .int .i64 ((j : Nat) : Int)) (f := .int .i64 1) rfl _ _ hr5 rfl rfl rfl rfl) rfl ?_ (HB.out.trans (ho5.below HRB.out))
          exact .inl ⟨_, _, HST3.out, rfl⟩
        · have hge : ¬ (H : Int) ≤ (row : Int) := by omega
          have hcl9 := HCL.out
          have hwb9 := HWB.out
          obtain ⟨c1, hc1⟩ : ∃ c1, c1 = col + n := ⟨_, rfl⟩
          have E9 : Hid (wrap64 ((col : Int) + (n : Int)) = (c1 : Int)) := Lib.hid (wr_big2 (by rw [hc1]; push_cast; rfl) (by omega))
          by_cases hwn : W < col + n
          · have HST3 : Hid (step s.data.toList W H i row col F = .bad j 1) := Lib.hid (by rw [HST2.out, if_pos (.inr hwn)])
            have hlt : (W : Int) < (c1 : Int) := by omega
            clear hrow hwn hcl9 hwb9 hc1 hnb9
            have e9 := E9.out
            have e9' := wr_same e9
            have l5 := row_range HZ.out
            go_wp2_with (first | (refine wpList_load_mid rfl 35 _ rfl nb 0 rfl _ _ l5 Tryd.underlying35 rfl infoPat ?_) | (refine Ops.wpList_store_arr rfl 35 _ _ rfl rb rfl 35 noPat noPat rfl HR.out rfl infoPat noPat_one ?_; intro w5 hr5 ho5))
            refine hret _ _ _ (results_pat3 (t := 2) (u := 3) (v := 4) (e := .int .i64 ((j : Nat) : Int)) (f := .int .i64 1) rfl _ _ hr5 rfl rfl rfl rfl) rfl ?_ (HB.out.trans (ho5.below HRB.out))
            exact .inl ⟨_, _, HST3.out, rfl⟩
          · have HST3 : Hid (step s.data.toList W H i row col F = .go z1 row c1 (if x = 111 then fill F (row * W + col) n else F)) := Lib.hid (by rw [HST2.out, if_neg (fun h => by rcases h with h | h; (exact hrow h); (exact hwn h)), hc1, HZ1.out])
            have hlt : ¬ (W : Int) < (c1 : Int) := by omega
            have HRW : Hid (row < H) := Lib.hid (by omega)
            have HCW : Hid (col + n ≤ W) := Lib.hid (by omega)
            have HC1 : Hid (col + n = c1) := Lib.hid hc1.symm
            clear hrow hwn hcl9 hwb9 hc1 hnb9
            have e9 := E9.out
            have e9' := wr_same e9
            go_upto_block 5 with fail
            clear e9 e9'
            apply rf_fill (w0 := w0) (s := s) (pb := pb) (g := g) (W := W) (H := H) (N := N) (N2 := N2) (row := row) (col := col) (n := n) (c := x) (F := F)
            case hN => exact HN.out
            case hW => exact HWB.out
            case hH => exact HHB.out
            case hr => exact HRW.out
            case hcw => exact HCW.out
            case hV => exact HV.out
            case hP => exact HP.out
            case hpg => exact ⟨HNE.out.1, HNE.out.2.2.2.2⟩
            case hb => exact HB.out
            case hnext =>
              intro u125 u126 u127 u128 u129 u130 u131 u132 u133 u134 u135 u136 u137 u138 u139 u140 u141 w2 hv hp hk hb
              have HVn := Lib.hid hv
              have HPn := Lib.hid hp
              have HRn := Lib.hid (hk rb _ _ HNE.out.2.1 HR.out)
              have HZn := Lib.hid (hk nb _ _ HNE.out.2.2.1 HZ.out)
              have HBn := Lib.hid hb
              clear hv hp hk hb
              have e9 := E9.out
              have e9' := wr_same e9
              have ez := EZ.out
              have ez' := wr_same ez
              go_wp2_with fail
              exact hnext z1 row c1 _ HST3.out HVn.out HPn.out HRn.out HZn.out HBn.out
      · by_cases h111 : x = 111
        · have HST2 : Hid (step s.data.toList W H i row col F = if H ≤ row ∨ W < col + n then .bad j 1 else .go (z + 1) row (col + n) (if x = 111 then fill F (row * W + col) n else F)) := Lib.hid (by
            rw [HST.out, stepT, if_pos (.inr h111), ← HCN.out, ← HZE.out])
          have q98 : ((x.toNat : Int) == 98) = false := byte_ne (k := 98) (by decide) h98
          have q111 : ((x.toNat : Int) == 111) = true := byte_eq (k := 111) (by decide) h111
          clear h98 h111
          by_cases hrow : H ≤ row
          · have HST3 : Hid (step s.data.toList W H i row col F = .bad j 1) := Lib.hid (by rw [HST2.out, if_pos (.inl hrow)])
            have hge : (H : Int) ≤ (row : Int) := by omega
            clear hrow
            have l5 := row_range HZ.out
            go_wp2_with (first | (refine wpList_load_mid rfl 35 _ rfl nb 0 rfl _ _ l5 Tryd.underlying35 rfl infoPat ?_) | (refine Ops.wpList_store_arr rfl 35 _ _ rfl rb rfl 35 noPat noPat rfl HR.out rfl infoPat noPat_one ?_; intro w5 hr5 ho5))
            refine hret _ _ _ (results_pat3 (t := 2) (u := 3) (v := 4) (e := .int .i64 ((j : Nat) : Int)) (f := .int .i64 1) rfl _ _ hr5 rfl rfl rfl rfl) rfl ?_ (HB.out.trans (ho5.below HRB.out))
            exact .inl ⟨_, _, HST3.out, rfl⟩
          · have hge : ¬ (H : Int) ≤ (row : Int) := by omega
            have hcl9 := HCL.out
            have hwb9 := HWB.out
            obtain ⟨c1, hc1⟩ : ∃ c1, c1 = col + n := ⟨_, rfl⟩
            have E9 : Hid (wrap64 ((col : Int) + (n : Int)) = (c1 : Int)) := Lib.hid (wr_big2 (by rw [hc1]; push_cast; rfl) (by omega))
            by_cases hwn : W < col + n
            · have HST3 : Hid (step s.data.toList W H i row col F = .bad j 1) := Lib.hid (by rw [HST2.out, if_pos (.inr hwn)])
              have hlt : (W : Int) < (c1 : Int) := by omega
              clear hrow hwn hcl9 hwb9 hc1 hnb9
              have e9 := E9.out
              have e9' := wr_same e9
              have l5 := row_range HZ.out
              go_wp2_with (first | (refine wpList_load_mid rfl 35 _ rfl nb 0 rfl _ _ l5 Tryd.underlying35 rfl infoPat ?_) | (refine Ops.wpList_store_arr rfl 35 _ _ rfl rb rfl 35 noPat noPat rfl HR.out rfl infoPat noPat_one ?_; intro w5 hr5 ho5))
              refine hret _ _ _ (results_pat3 (t := 2) (u := 3) (v := 4) (e := .int .i64 ((j : Nat) : Int)) (f := .int .i64 1) rfl _ _ hr5 rfl rfl rfl rfl) rfl ?_ (HB.out.trans (ho5.below HRB.out))
              exact .inl ⟨_, _, HST3.out, rfl⟩
            · have HST3 : Hid (step s.data.toList W H i row col F = .go z1 row c1 (if x = 111 then fill F (row * W + col) n else F)) := Lib.hid (by rw [HST2.out, if_neg (fun h => by rcases h with h | h; (exact hrow h); (exact hwn h)), hc1, HZ1.out])
              have hlt : ¬ (W : Int) < (c1 : Int) := by omega
              have HRW : Hid (row < H) := Lib.hid (by omega)
              have HCW : Hid (col + n ≤ W) := Lib.hid (by omega)
              have HC1 : Hid (col + n = c1) := Lib.hid hc1.symm
              clear hrow hwn hcl9 hwb9 hc1 hnb9
              have e9 := E9.out
              have e9' := wr_same e9
              go_upto_block 5 with fail
              clear e9 e9'
              apply rf_fill (w0 := w0) (s := s) (pb := pb) (g := g) (W := W) (H := H) (N := N) (N2 := N2) (row := row) (col := col) (n := n) (c := x) (F := F)
              case hN => exact HN.out
              case hW => exact HWB.out
              case hH => exact HHB.out
              case hr => exact HRW.out
              case hcw => exact HCW.out
              case hV => exact HV.out
              case hP => exact HP.out
              case hpg => exact ⟨HNE.out.1, HNE.out.2.2.2.2⟩
              case hb => exact HB.out
              case hnext =>
                intro u125 u126 u127 u128 u129 u130 u131 u132 u133 u134 u135 u136 u137 u138 u139 u140 u141 w2 hv hp hk hb
                have HVn := Lib.hid hv
                have HPn := Lib.hid hp
                have HRn := Lib.hid (hk rb _ _ HNE.out.2.1 HR.out)
                have HZn := Lib.hid (hk nb _ _ HNE.out.2.2.1 HZ.out)
                have HBn := Lib.hid hb
                clear hv hp hk hb
                have e9 := E9.out
                have e9' := wr_same e9
                have ez := EZ.out
                have ez' := wr_same ez
                go_wp2_with fail
                exact hnext z1 row c1 _ HST3.out HVn.out HPn.out HRn.out HZn.out HBn.out
        · have HSTa : Hid (step s.data.toList W H i row col F = if x = 36 then (if H ≤ row + n then .bad j 1 else .go (z + 1) (row + n) 0 F) else if x = 33 then (if ds ≠ [] then .bad z 2 else if skp s.data.toList (z + 1) < s.data.toList.length then .bad (skp s.data.toList (z + 1)) 2 else .ok F) else .bad z 2) := Lib.hid (by
            rw [HST.out, stepT, if_neg (fun h => by rcases h with h | h; (exact h98 h); (exact h111 h)), ← HCN.out, ← HZE.out])
          by_cases h36 : x = 36
          · have HST2 : Hid (step s.data.toList W H i row col F = if H ≤ row + n then .bad j 1 else .go (z + 1) (row + n) 0 F) := Lib.hid (by rw [HSTa.out, if_pos h36])
            have q98 : ((x.toNat : Int) == 98) = false := byte_ne (k := 98) (by decide) h98
            have q111 : ((x.toNat : Int) == 111) = false := byte_ne (k := 111) (by decide) h111
            have q36 : ((x.toNat : Int) == 36) = true := byte_eq (k := 36) (by decide) h36
            clear h98 h111 h36
            have hb1 := HHB.out
            have hb2 := HRL.out
            obtain ⟨r1, hr1⟩ : ∃ r1, r1 = row + n := ⟨_, rfl⟩
            have E8 : Hid (wrap64 ((row : Int) + (n : Int)) = (r1 : Int)) := Lib.hid (wr_big2 (by rw [hr1]; push_cast; rfl) (by omega))
            by_cases hrn : H ≤ row + n
            · have HST3 : Hid (step s.data.toList W H i row col F = .bad j 1) := Lib.hid (by rw [HST2.out, if_pos hrn])
              have hge : (H : Int) ≤ (r1 : Int) := by omega
              clear hrn hb1 hb2 hr1 hnb9
              have e8 := E8.out
              have e8' := wr_same e8
              have l5 := row_range HZ.out
              go_wp2_with (first | (refine wpList_load_mid rfl 35 _ rfl nb 0 rfl _ _ l5 Tryd.underlying35 rfl infoPat ?_) | (refine Ops.wpList_store_arr rfl 35 _ _ rfl rb rfl 35 noPat noPat rfl HR.out rfl infoPat noPat_one ?_; intro w5 hr5 ho5))
              refine hret _ _ _ (results_pat3 (t := 2) (u := 3) (v := 4) (e := .int .i64 ((j : Nat) : Int)) (f := .int .i64 1) rfl _ _ hr5 rfl rfl rfl rfl) rfl ?_ (HB.out.trans (ho5.below HRB.out))
              exact .inl ⟨_, _, HST3.out, rfl⟩
            · have hge : ¬ (H : Int) ≤ (r1 : Int) := by omega
              have HST4 : Hid (step s.data.toList W H i row col F = .go z1 r1 0 F) := Lib.hid (by rw [HST2.out, if_neg hrn, hr1, HZ1.out])
              clear hrn hb1 hb2 hr1 hnb9
              have e8 := E8.out
              have e8' := wr_same e8
              have ez := EZ.out
              have ez' := wr_same ez
              go_wp2_with fail
              exact hnext z1 r1 0 _ HST4.out HV.out HP.out HR.out HZ.out HB.out
          · by_cases h33 : x = 33
            · have HST2 : Hid (step s.data.toList W H i row col F = if ds ≠ [] then .bad z 2 else if skp s.data.toList (z + 1) < s.data.toList.length then .bad (skp s.data.toList (z + 1)) 2 else .ok F) := Lib.hid (by rw [HSTa.out, if_neg h36, if_pos h33])
              have q98 : ((x.toNat : Int) == 98) = false := byte_ne (k := 98) (by decide) h98
              have q111 : ((x.toNat : Int) == 111) = false := byte_ne (k := 111) (by decide) h111
              have q36 : ((x.toNat : Int) == 36) = false := byte_ne (k := 36) (by decide) h36
              have q33 : ((x.toNat : Int) == 33) = true := byte_eq (k := 33) (by decide) h33
              clear h98 h111 h36 h33
              by_cases hds0 : ds = []
              · have hjzE : j = z := by have := HZE.out; rw [hds0] at this; simp at this; omega
                have HST3 : Hid (step s.data.toList W H i row col F = if skp s.data.toList (z + 1) < s.data.toList.length then .bad (skp s.data.toList (z + 1)) 2 else .ok F) := Lib.hid (by rw [HST2.out, if_neg (fun h => h hds0)])
                have HZ1S : Hid (z + 1 ≤ s.size) := Lib.hid HZS.out
                clear hds0 hnb9
                have hjb : ((j : Int) != (z : Int)) = false := by rw [bne_eq_false_iff_eq]; omega
                have E1 : Hid (wrap64 ((z : Int) + 1) = ((z + 1 : Nat) : Int)) := Lib.hid (wr_nat (by push_cast; rfl) (by have := HZB.out; omega))
                go_upto_block 7 with fail
                rw [E1.out]
                apply rf_end (w0 := w0) (s := s) (rb := rb) (nb := nb) (i := z + 1)
                case hs => exact HSZ.out
                case hi => exact HZ1S.out
                case hR => exact HR.out
                case hZ => exact HZ.out
                case hrb => exact HRB.out
                case hb => exact HB.out
                case hret =>
                  rintro a' w' v hr hd ⟨hlt, rfl⟩ hbl
                  exact hret a' w' _ hr hd (.inl ⟨_, _, by rw [HST3.out, if_pos (by rw [← Lib.size_eq]; exact hlt)], rfl⟩) hbl
                case hnext =>
                  intro u3 u4 u166 u167 u168 u169 u170 u171 u172 u173 u174 u175 u176 u177 u178 u179 u180 u181 u182 u183 w2 heq hw2
                  subst hw2
                  have HOK : Hid (step s.data.toList W H i row col F = .ok F) := Lib.hid (by rw [HST3.out, if_neg (by rw [← Lib.size_eq, heq]; exact Nat.lt_irrefl _)])
                  clear heq
                  have l6 := row_range HP.out
                  go_wp2_with (first | (refine wpList_load_mid rfl 35 _ rfl pb 0 rfl _ _ l6 Tryd.underlying35 rfl infoPat ?_) | (refine Ops.wpList_store_arr rfl 35 _ _ rfl rb rfl 35 noPat (boxP (W : Nat) (H : Nat) (some ⟨g, 0, none⟩) N N2) rfl HR.out rfl infoPat (boxP_one _ _ _ _ _) ?_; intro w5 hr5 ho5))
                  exact hret _ _ _ (results_pat3 (t := 2) (u := 3) (v := 4) (e := .int .i64 0) (f := .int .i64 0) rfl _ _ hr5 rfl rfl rfl rfl) rfl (.inr ⟨F, HOK.out, rfl, HV.out.other ho5 (Ne.symm HNE.out.2.1)⟩) (HB.out.trans (ho5.below HRB.out))
              · have hjz : ¬ (j : Int) = (z : Int) := by have := HZE.out; have := List.length_pos_iff.2 hds0; omega
                have hjb : ((j : Int) != (z : Int)) = true := by rw [bne_iff_ne]; exact hjz
                have HST3 : Hid (step s.data.toList W H i row col F = .bad z 2) := Lib.hid (by rw [HST2.out, if_pos hds0])
                clear hds0 hnb9
                have l5 := row_range HZ.out
                go_wp2_with (first | (refine wpList_load_mid rfl 35 _ rfl nb 0 rfl _ _ l5 Tryd.underlying35 rfl infoPat ?_) | (refine Ops.wpList_store_arr rfl 35 _ _ rfl rb rfl 35 noPat noPat rfl HR.out rfl infoPat noPat_one ?_; intro w5 hr5 ho5))
                refine hret _ _ _ (results_pat3 (t := 2) (u := 3) (v := 4) (e := .int .i64 ((z : Nat) : Int)) (f := .int .i64 2) rfl _ _ hr5 rfl rfl rfl rfl) rfl ?_ (HB.out.trans (ho5.below HRB.out))
                exact .inl ⟨_, _, HST3.out, rfl⟩
            · have HST3 : Hid (step s.data.toList W H i row col F = .bad z 2) := Lib.hid (by rw [HSTa.out, if_neg h36, if_neg h33])
              have q33 : ((x.toNat : Int) == 33) = false := byte_ne (k := 33) (by decide) h33
              have q36 : ((x.toNat : Int) == 36) = false := byte_ne (k := 36) (by decide) h36
              have q98 : ((x.toNat : Int) == 98) = false := byte_ne (k := 98) (by decide) h98
              have q111 : ((x.toNat : Int) == 111) = false := byte_ne (k := 111) (by decide) h111
              clear h98 h111 h36 h33 hnb9
              have l5 := row_range HZ.out
              go_wp2_with (first | (refine wpList_load_mid rfl 35 _ rfl nb 0 rfl _ _ l5 Tryd.underlying35 rfl infoPat ?_) | (refine Ops.wpList_store_arr rfl 35 _ _ rfl rb rfl 35 noPat noPat rfl HR.out rfl infoPat noPat_one ?_; intro w5 hr5 ho5))
              refine hret _ _ _ (results_pat3 (t := 2) (u := 3) (v := 4) (e := .int .i64 ((z : Nat) : Int)) (f := .int .i64 2) rfl _ _ hr5 rfl rfl rfl rfl) rfl ?_ (HB.out.trans (ho5.below HRB.out))
              exact .inl ⟨_, _, HST3.out, rfl⟩
    · have hze : z = s.size := by have := HLE.out; have := HZE.out; omega
      have hzi : (s.size : Int) ≤ (z : Int) := by omega
      have HST : Hid (step s.data.toList W H i row col F = .bad z 2) := Lib.hid (by
        rw [HS2.out]
        unfold stepJ
        rw [if_neg HNB.out, if_pos (by rw [← Lib.size_eq, ← HZE.out]; omega), ← HZE.out])
      clear hzs hze hnb9
      have l5 := row_range HZ.out
      go_wp2_with (first | (refine wpList_load_mid rfl 35 _ rfl nb 0 rfl _ _ l5 Tryd.underlying35 rfl infoPat ?_) | (refine Ops.wpList_store_arr rfl 35 _ _ rfl rb rfl 35 noPat noPat rfl HR.out rfl infoPat noPat_one ?_; intro w5 hr5 ho5))
      refine hret _ _ _ (results_pat3 (t := 2) (u := 3) (v := 4) (e := .int .i64 ((z : Nat) : Int)) (f := .int .i64 2) rfl _ _ hr5 rfl rfl rfl rfl) rfl ?_ (HB.out.trans (ho5.below HRB.out))
      exact .inl ⟨_, _, HST.out, rfl⟩
end Pr
end Go.Proofs.YtgagophijmiceaaDoor
