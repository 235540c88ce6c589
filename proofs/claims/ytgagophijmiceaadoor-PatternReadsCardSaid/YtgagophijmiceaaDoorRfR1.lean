/- WALK: the document's edenref1.ParseRuns: blanks, the cells of a run, what stands behind the end. -/
import Derived.Test.YtgagophijmiceaaDoorPrR
namespace Go.Proofs.YtgagophijmiceaaDoor
set_option linter.unusedSimpArgs false
set_option linter.unusedVariables false
open Go.RowKit
namespace Pr
open Tld Mem Bl Pn Pw Rd

set_option maxHeartbeats 8000000 in
set_option maxRecDepth 1000000 in
theorem rf_skip (w : World) (s : ByteArray) (i : Nat) (hs : s.size ≤ 40000) (hi : i ≤ s.size)
    (c1 c2 c3 c4 c5 c6 c7 c9 c10 c11 c12 c13 c14 c15 c16 c17 c18 c19 c20 c21 c22 c23 c24 c25 c26 c27 c28 c29 c30 c31 c32 c33 c34 c35 c36 c37 c38 c39 c40 c41 c42 c43 c44 c45 c46 c47 c48 c49 c50 c51 c52 c53 c54 c55 c56 c57 c58 c59 c60 c61 c62 c63 c64 c65 c66 c67 c68 c69 c70 c71 c72 c73 c74 c75 c76 c77 c78 c79 c80 c81 c82 c83 c84 c85 c86 c87 c88 c89 c90 c91 c92 c93 c94 c95 c96 c97 c98 c99 c100 c101 c102 c103 c104 c105 c106 c107 c108 c109 c110 c111 c112 c113 c114 c115 c116 c117 c118 c119 c120 c121 c122 c123 c124 c125 c126 c127 c128 c129 c130 c131 c132 c133 c134 c135 c136 c137 c138 c139 c140 c141 c142 c143 c144 c145 c146 c147 c148 c149 c150 c151 c152 c153 c154 c155 c156 c157 c158 c159 c160 c161 c162 c163 c164 c165 c166 c167 c168 c169 c170 c171 c172 c173 c174 c175 c176 c177 c178 c179 c180 c181 c182 c183 c184 c185 c186 : Value) (Q : Exit → Act → World → Prop)
    (hnext : ∀ {u45 u46 u47 u48 u49 u50 u51 u52 u53 u54 u55 u56 u57 u58 u59 u60 u61 u62 : Value} {w' : World}, w' = w → Q .normal ⟨#[.string s, c1, c2, c3, c4, c5, c6, c7, .int .i64 ((i + bln s i : Nat) : Int), c9, c10, c11, c12, c13, c14, c15, c16, c17, c18, c19, c20, c21, c22, c23, c24, c25, c26, c27, c28, c29, c30, c31, c32, c33, c34, c35, c36, c37, c38, c39, c40, c41, c42, c43, c44, u45, u46, u47, u48, u49, u50, u51, u52, u53, u54, u55, u56, u57, u58, u59, u60, u61, u62, c63, c64, c65, c66, c67, c68, c69, c70, c71, c72, c73, c74, c75, c76, c77, c78, c79, c80, c81, c82, c83, c84, c85, c86, c87, c88, c89, c90, c91, c92, c93, c94, c95, c96, c97, c98, c99, c100, c101, c102, c103, c104, c105, c106, c107, c108, c109, c110, c111, c112, c113, c114, c115, c116, c117, c118, c119, c120, c121, c122, c123, c124, c125, c126, c127, c128, c129, c130, c131, c132, c133, c134, c135, c136, c137, c138, c139, c140, c141, c142, c143, c144, c145, c146, c147, c148, c149, c150, c151, c152, c153, c154, c155, c156, c157, c158, c159, c160, c161, c162, c163, c164, c165, c166, c167, c168, c169, c170, c171, c172, c173, c174, c175, c176, c177, c178, c179, c180, c181, c182, c183, c184, c185, c186], []⟩ w')
    : Code.wp Tryd.prog ((Pc.blk 2 (Tryd.f12.body.getD .skip)).getD .skip) Q ⟨#[.string s, c1, c2, c3, c4, c5, c6, c7, .int .i64 ((i : Nat) : Int), c9, c10, c11, c12, c13, c14, c15, c16, c17, c18, c19, c20, c21, c22, c23, c24, c25, c26, c27, c28, c29, c30, c31, c32, c33, c34, c35, c36, c37, c38, c39, c40, c41, c42, c43, c44, c45, c46, c47, c48, c49, c50, c51, c52, c53, c54, c55, c56, c57, c58, c59, c60, c61, c62, c63, c64, c65, c66, c67, c68, c69, c70, c71, c72, c73, c74, c75, c76, c77, c78, c79, c80, c81, c82, c83, c84, c85, c86, c87, c88, c89, c90, c91, c92, c93, c94, c95, c96, c97, c98, c99, c100, c101, c102, c103, c104, c105, c106, c107, c108, c109, c110, c111, c112, c113, c114, c115, c116, c117, c118, c119, c120, c121, c122, c123, c124, c125, c126, c127, c128, c129, c130, c131, c132, c133, c134, c135, c136, c137, c138, c139, c140, c141, c142, c143, c144, c145, c146, c147, c148, c149, c150, c151, c152, c153, c154, c155, c156, c157, c158, c159, c160, c161, c162, c163, c164, c165, c166, c167, c168, c169, c170, c171, c172, c173, c174, c175, c176, c177, c178, c179, c180, c181, c182, c183, c184, c185, c186], []⟩ w := by
  conv => arg 2; whnf
  have HSZ := Lib.hid hs
  have HLT : Hid (∀ j, j < bln s i → i + j < s.size ∧ blB (s.data.toList.getD (i + j) 0) = true) := Lib.hid (fun j hj => bln_lt hj)
  have HEND : Hid (i + bln s i < s.size → blB (s.data.toList.getD (i + bln s i) 0) = false) := Lib.hid bln_end
  have HLE := Lib.hid (bln_le s i hi)
  generalize bln s i = K at *
  clear hs hi
  go_wp2_with fail
  go_loopw [8] (fun v wx => (∃ j : Nat, v = .int .i64 ((i + j : Nat) : Int) ∧ j ≤ K) ∧ w = wx) (fun v _ => s.size + 2 - (RowKit.intOf v).toNat)
  case atStart => exact ⟨⟨0, rfl, Nat.zero_le _⟩, rfl⟩
  case round =>
    obtain ⟨⟨j, rfl, hj⟩, rfl⟩ := hrel
    obtain ⟨z, hz⟩ : ∃ z, z = i + j := ⟨_, rfl⟩
    rw [← hz]
    have HZE := Lib.hid hz
    by_cases hjl : j < K
    · have h3 := HLT.out j hjl
      rw [← hz] at h3
      have hzs := h3.1
      have hbl := h3.2
      have hzi : (z : Int) < (s.size : Int) := by omega
      have hg := get_drop s hzs
      obtain ⟨x, hx⟩ : ∃ x, x = s.data.toList.getD z 0 := ⟨_, rfl⟩
      rw [← hx] at hg hbl
      have HJ : Hid (j + 1 ≤ K) := Lib.hid hjl
      have E1 : Hid (wrap64 ((z : Int) + 1) = ((i + (j + 1) : Nat) : Int)) := Lib.hid (wr_nat (by rw [hz]; push_cast; omega) (by have := HSZ.out; omega))
      have HZS := Lib.hid hzs
      clear h3 hx hz hjl hj
      by_cases hx32 : x = 32
      · have q1 : ((x.toNat : Int) == 32) = true := byte_eq (k := 32) (by decide) hx32
        have q2 : ((x.toNat : Int) != 32) = false := by rw [bne, q1]; rfl
        clear hx32
        clear hbl
        go_wp2_with fail
        go_roundw
        case rel => exact ⟨⟨j + 1, congrArg (Value.int .i64) E1.out, HJ.out⟩, trivial⟩
        case measure => exact meas E1.out (by have := HJ.out; have := HZE.out; have := HZS.out; omega)
      · have q1 : ((x.toNat : Int) == 32) = false := byte_ne (k := 32) (by decide) hx32
        have q2 : ((x.toNat : Int) != 32) = true := by rw [bne, q1]; rfl
        have hx10 : x = 10 := by
          unfold blB at hbl
          rcases of_decide_eq_true hbl with h | h
          · exact absurd h hx32
          · exact h
        have q3 : ((x.toNat : Int) == 10) = true := byte_eq (k := 10) (by decide) hx10
        have q4 : ((x.toNat : Int) != 10) = false := by rw [bne, q3]; rfl
        clear hx32 hx10
        clear hbl
        go_wp2_with fail
        go_roundw
        case rel => exact ⟨⟨j + 1, congrArg (Value.int .i64) E1.out, HJ.out⟩, trivial⟩
        case measure => exact meas E1.out (by have := HJ.out; have := HZE.out; have := HZS.out; omega)
    · obtain rfl : j = K := by omega
      clear hjl hj
      by_cases hzs : z < s.size
      · have hg := get_drop s hzs
        have hbl := HEND.out (by rw [← hz]; exact hzs)
        rw [← hz] at hbl
        obtain ⟨x, hx⟩ : ∃ x, x = s.data.toList.getD z 0 := ⟨_, rfl⟩
        rw [← hx] at hg hbl
        have hzi : (z : Int) < (s.size : Int) := by omega
        have HZS := Lib.hid hzs
        clear hx hz
        have hno : x ≠ 32 ∧ x ≠ 10 := by
          unfold blB at hbl
          have h := of_decide_eq_false hbl
          exact ⟨fun e => h (.inl e), fun e => h (.inr e)⟩
        have q1 : ((x.toNat : Int) == 32) = false := byte_ne (k := 32) (by decide) hno.1
        have q2 : ((x.toNat : Int) != 32) = true := by rw [bne, q1]; rfl
        have q3 : ((x.toNat : Int) == 10) = false := byte_ne (k := 10) (by decide) hno.2
        have q4 : ((x.toNat : Int) != 10) = true := by rw [bne, q3]; rfl
        clear hno
        clear hbl
        go_wp2_with fail
        obtain rfl := HZE.out
        exact hnext rfl
      · skip
        have hzi : ¬ (z : Int) < (s.size : Int) := by omega
        clear hz
        go_wp2_with fail
        obtain rfl := HZE.out
        exact hnext rfl
set_option maxHeartbeats 8000000 in
set_option maxRecDepth 1000000 in
theorem rf_end (w0 w : World) (s : ByteArray) (rb nb i : Nat) (hs : s.size ≤ 40000) (hi : i ≤ s.size) (hR : Row w rb 35 noPat) (hZ : Row w nb 35 noPat) (hrb : w0.heap.size ≤ rb) (hb : Below w0.heap.size w0 w)
    (c1 c3 c4 c6 c7 c8 c9 c10 c11 c12 c13 c14 c15 c16 c17 c18 c20 c21 c22 c23 c24 c25 c26 c27 c28 c29 c30 c31 c32 c33 c34 c35 c36 c37 c38 c39 c40 c41 c42 c43 c44 c45 c46 c47 c48 c49 c50 c51 c52 c53 c54 c55 c56 c57 c58 c59 c60 c61 c62 c63 c64 c65 c66 c67 c68 c69 c70 c71 c72 c73 c74 c75 c76 c77 c78 c79 c80 c81 c82 c83 c84 c85 c86 c87 c88 c89 c90 c91 c92 c93 c94 c95 c96 c97 c98 c99 c100 c101 c102 c103 c104 c105 c106 c107 c108 c109 c110 c111 c112 c113 c114 c115 c116 c117 c118 c119 c120 c121 c122 c123 c124 c125 c126 c127 c128 c129 c130 c131 c132 c133 c134 c135 c136 c137 c138 c139 c140 c141 c142 c143 c144 c145 c146 c147 c148 c149 c150 c151 c152 c153 c154 c155 c156 c157 c158 c159 c160 c161 c162 c163 c164 c165 c166 c167 c168 c169 c170 c171 c172 c173 c174 c175 c176 c177 c178 c179 c180 c181 c182 c183 c184 c185 c186 : Value) (Q : Exit → Act → World → Prop)
    (hnext : ∀ {u3 u4 u166 u167 u168 u169 u170 u171 u172 u173 u174 u175 u176 u177 u178 u179 u180 u181 u182 u183 : Value} {w' : World}, skp s.data.toList i = s.size → w' = w → Q .normal ⟨#[.string s, c1, .pointer (some ⟨rb, 0, none⟩), u3, u4, .pointer (some ⟨nb, 0, none⟩), c6, c7, c8, c9, c10, c11, c12, c13, c14, c15, c16, c17, c18, .int .i64 ((s.size : Nat) : Int), c20, c21, c22, c23, c24, c25, c26, c27, c28, c29, c30, c31, c32, c33, c34, c35, c36, c37, c38, c39, c40, c41, c42, c43, c44, c45, c46, c47, c48, c49, c50, c51, c52, c53, c54, c55, c56, c57, c58, c59, c60, c61, c62, c63, c64, c65, c66, c67, c68, c69, c70, c71, c72, c73, c74, c75, c76, c77, c78, c79, c80, c81, c82, c83, c84, c85, c86, c87, c88, c89, c90, c91, c92, c93, c94, c95, c96, c97, c98, c99, c100, c101, c102, c103, c104, c105, c106, c107, c108, c109, c110, c111, c112, c113, c114, c115, c116, c117, c118, c119, c120, c121, c122, c123, c124, c125, c126, c127, c128, c129, c130, c131, c132, c133, c134, c135, c136, c137, c138, c139, c140, c141, c142, c143, c144, c145, c146, c147, c148, c149, c150, c151, c152, c153, c154, c155, c156, c157, c158, c159, c160, c161, c162, c163, c164, c165, u166, u167, u168, u169, u170, u171, u172, u173, u174, u175, u176, u177, u178, u179, u180, u181, u182, u183, c184, c185, c186], []⟩ w')
    (hret : ∀ (a' : Act) (w' : World) (v : Value), (results Tryd.f12 a'.tmps).run Tryd.prog w' = .ok v w' → a'.defers = [] → (skp s.data.toList i < s.size ∧ v = .tuple #[.agg #[.int .i64 0, .int .i64 0, .slice none 0 0], .int .i64 ((skp s.data.toList i : Nat) : Int), .int .i64 2]) → Below w0.heap.size w0 w' → Q .ret a' w')
    : Code.wp Tryd.prog ((Pc.blk 7 (Tryd.f12.body.getD .skip)).getD .skip) Q ⟨#[.string s, c1, .pointer (some ⟨rb, 0, none⟩), c3, c4, .pointer (some ⟨nb, 0, none⟩), c6, c7, c8, c9, c10, c11, c12, c13, c14, c15, c16, c17, c18, .int .i64 ((i : Nat) : Int), c20, c21, c22, c23, c24, c25, c26, c27, c28, c29, c30, c31, c32, c33, c34, c35, c36, c37, c38, c39, c40, c41, c42, c43, c44, c45, c46, c47, c48, c49, c50, c51, c52, c53, c54, c55, c56, c57, c58, c59, c60, c61, c62, c63, c64, c65, c66, c67, c68, c69, c70, c71, c72, c73, c74, c75, c76, c77, c78, c79, c80, c81, c82, c83, c84, c85, c86, c87, c88, c89, c90, c91, c92, c93, c94, c95, c96, c97, c98, c99, c100, c101, c102, c103, c104, c105, c106, c107, c108, c109, c110, c111, c112, c113, c114, c115, c116, c117, c118, c119, c120, c121, c122, c123, c124, c125, c126, c127, c128, c129, c130, c131, c132, c133, c134, c135, c136, c137, c138, c139, c140, c141, c142, c143, c144, c145, c146, c147, c148, c149, c150, c151, c152, c153, c154, c155, c156, c157, c158, c159, c160, c161, c162, c163, c164, c165, c166, c167, c168, c169, c170, c171, c172, c173, c174, c175, c176, c177, c178, c179, c180, c181, c182, c183, c184, c185, c186], []⟩ w := by
  conv => arg 2; whnf
  have HSZ := Lib.hid hs
  have HLT : Hid (∀ j, j < bln s i → i + j < s.size ∧ blB (s.data.toList.getD (i + j) 0) = true) := Lib.hid (fun j hj => bln_lt hj)
  have HEND : Hid (i + bln s i < s.size → blB (s.data.toList.getD (i + bln s i) 0) = false) := Lib.hid bln_end
  have HLE := Lib.hid (bln_le s i hi)
  rw [skp_bln] at hnext hret
  generalize bln s i = K at *
  have HR := Lib.hid hR
  have HZ := Lib.hid hZ
  have HRB := Lib.hid hrb
  have HB := Lib.hid hb
  clear hs hi hR hZ hrb hb
  go_wp2_with fail
  go_loopw [19] (fun v wx => (∃ j : Nat, v = .int .i64 ((i + j : Nat) : Int) ∧ j ≤ K) ∧ w = wx) (fun v _ => s.size + 2 - (RowKit.intOf v).toNat)
  case atStart => exact ⟨⟨0, rfl, Nat.zero_le _⟩, rfl⟩
  case round =>
    obtain ⟨⟨j, rfl, hj⟩, rfl⟩ := hrel
    obtain ⟨z, hz⟩ : ∃ z, z = i + j := ⟨_, rfl⟩
    rw [← hz]
    have HZE := Lib.hid hz
    by_cases hjl : j < K
    · have h3 := HLT.out j hjl
      rw [← hz] at h3
      have hzs := h3.1
      have hbl := h3.2
      have hzi : (z : Int) < (s.size : Int) := by omega
      have hg := get_drop s hzs
      obtain ⟨x, hx⟩ : ∃ x, x = s.data.toList.getD z 0 := ⟨_, rfl⟩
      rw [← hx] at hg hbl
      have HJ : Hid (j + 1 ≤ K) := Lib.hid hjl
      have E1 : Hid (wrap64 ((z : Int) + 1) = ((i + (j + 1) : Nat) : Int)) := Lib.hid (wr_nat (by rw [hz]; push_cast; omega) (by have := HSZ.out; omega))
      have HZS := Lib.hid hzs
      clear h3 hx hz hjl hj
      by_cases hx32 : x = 32
      · have q1 : ((x.toNat : Int) == 32) = true := byte_eq (k := 32) (by decide) hx32
        have q2 : ((x.toNat : Int) != 32) = false := by rw [bne, q1]; rfl
        clear hx32
        clear hbl
        go_wp2_with fail
        go_roundw
        case rel => exact ⟨⟨j + 1, congrArg (Value.int .i64) E1.out, HJ.out⟩, trivial⟩
        case measure => exact meas E1.out (by have := HJ.out; have := HZE.out; have := HZS.out; omega)
      · have q1 : ((x.toNat : Int) == 32) = false := byte_ne (k := 32) (by decide) hx32
        have q2 : ((x.toNat : Int) != 32) = true := by rw [bne, q1]; rfl
        have hx10 : x = 10 := by
          unfold blB at hbl
          rcases of_decide_eq_true hbl with h | h
          · exact absurd h hx32
          · exact h
        have q3 : ((x.toNat : Int) == 10) = true := byte_eq (k := 10) (by decide) hx10
        have q4 : ((x.toNat : Int) != 10) = false := by rw [bne, q3]; rfl
        clear hx32 hx10
        clear hbl
        go_wp2_with fail
        go_roundw
        case rel => exact ⟨⟨j + 1, congrArg (Value.int .i64) E1.out, HJ.out⟩, trivial⟩
        case measure => exact meas E1.out (by have := HJ.out; have := HZE.out; have := HZS.out; omega)
    · obtain rfl : j = K := by omega
      clear hjl hj
      by_cases hzs : z < s.size
      · have hg := get_drop s hzs
        have hbl := HEND.out (by rw [← hz]; exact hzs)
        rw [← hz] at hbl
        obtain ⟨x, hx⟩ : ∃ x, x = s.data.toList.getD z 0 := ⟨_, rfl⟩
        rw [← hx] at hg hbl
        have hzi : (z : Int) < (s.size : Int) := by omega
        have HZS := Lib.hid hzs
        clear hx hz
        have hno : x ≠ 32 ∧ x ≠ 10 := by
          unfold blB at hbl
          have h := of_decide_eq_false hbl
          exact ⟨fun e => h (.inl e), fun e => h (.inr e)⟩
        have q1 : ((x.toNat : Int) == 32) = false := byte_ne (k := 32) (by decide) hno.1
        have q2 : ((x.toNat : Int) != 32) = true := by rw [bne, q1]; rfl
        have q3 : ((x.toNat : Int) == 10) = false := byte_ne (k := 10) (by decide) hno.2
        have q4 : ((x.toNat : Int) != 10) = true := by rw [bne, q3]; rfl
        clear hno
        clear hbl
        have l5 := row_range HZ.out
        go_wp2_with (first | (refine wpList_load_mid rfl 35 _ rfl nb 0 rfl _ _ l5 Tryd.underlying35 rfl infoPat ?_) | (refine Ops.wpList_store_arr rfl 35 _ _ rfl rb rfl 35 noPat noPat rfl HR.out rfl infoPat noPat_one ?_; intro w5 hr5 ho5))
        refine hret _ _ _ (results_pat3 (t := 2) (u := 3) (v := 4) (e := .int .i64 ((z : Nat) : Int)) (f := .int .i64 2) rfl _ _ hr5 rfl rfl rfl rfl) rfl ?_ (HB.out.trans (ho5.below HRB.out))
        rw [← HZE.out]
        exact ⟨HZS.out, rfl⟩
      · skip
        have hzi : ¬ (z : Int) < (s.size : Int) := by omega
        have hze : z = s.size := by have := HLE.out; omega
        have HEQ : Hid (i + j = s.size) := Lib.hid (by rw [← hz]; exact hze)
        clear hz hzs
        go_wp2_with fail
        subst hze
        exact hnext HEQ.out rfl
set_option maxHeartbeats 8000000 in
set_option maxRecDepth 1000000 in
theorem rf_fill (w0 w : World) (s : ByteArray) (pb g W H N N2 row col n : Nat) (c : UInt8) (F : Nat → Nat) (hN : N = W * H) (hW : W ≤ 100) (hH : H ≤ 100) (hr : row < H) (hcw : col + n ≤ W) (hV : Vec w g N F) (hP : Row w pb 35 (boxP (W : Nat) (H : Nat) (some ⟨g, 0, none⟩) N N2)) (hpg : pb ≠ g ∧ w0.heap.size ≤ g) (hb : Below w0.heap.size w0 w)
    (c1 c2 c3 c4 c5 c7 c8 c9 c13 c15 c16 c19 c20 c21 c22 c23 c24 c25 c26 c27 c28 c29 c30 c31 c32 c33 c34 c35 c36 c37 c38 c39 c40 c41 c42 c43 c44 c45 c46 c47 c48 c49 c50 c51 c52 c53 c54 c55 c56 c57 c58 c59 c60 c61 c62 c63 c64 c65 c66 c67 c68 c69 c70 c71 c72 c73 c74 c75 c76 c77 c78 c79 c80 c81 c82 c83 c84 c85 c86 c87 c88 c89 c90 c91 c92 c93 c94 c95 c96 c97 c98 c99 c100 c101 c102 c103 c104 c105 c106 c107 c108 c109 c110 c111 c112 c113 c114 c115 c116 c117 c118 c119 c120 c121 c122 c123 c124 c125 c126 c127 c128 c129 c130 c131 c132 c133 c134 c135 c136 c137 c138 c139 c140 c141 c142 c143 c144 c145 c146 c147 c148 c149 c150 c151 c152 c153 c154 c155 c156 c157 c158 c159 c160 c161 c162 c163 c164 c165 c166 c167 c168 c169 c170 c171 c172 c173 c174 c175 c176 c177 c178 c179 c180 c181 c182 c183 c184 c185 c186 : Value) (Q : Exit → Act → World → Prop)
    (hnext : ∀ {u125 u126 u127 u128 u129 u130 u131 u132 u133 u134 u135 u136 u137 u138 u139 u140 u141 : Value} {w' : World}, Vec w' g N ((if c = 111 then fill F (row * W + col) n else F)) → Row w' pb 35 (boxP (W : Nat) (H : Nat) (some ⟨g, 0, none⟩) N N2) → (∀ b T cs, b ≠ g → Row w b T cs → Row w' b T cs) → Below w0.heap.size w0 w' → Q .normal ⟨#[.string s, c1, c2, c3, c4, c5, .int .i64 ((W : Nat) : Int), c7, c8, c9, .pointer (some ⟨pb, 0, none⟩), .int .i64 ((col : Nat) : Int), .int .i64 ((row : Nat) : Int), c13, .int .i64 ((n : Nat) : Int), c15, c16, .int .u8 ((c.toNat : Nat) : Int), .int .i64 ((n : Nat) : Int), c19, c20, c21, c22, c23, c24, c25, c26, c27, c28, c29, c30, c31, c32, c33, c34, c35, c36, c37, c38, c39, c40, c41, c42, c43, c44, c45, c46, c47, c48, c49, c50, c51, c52, c53, c54, c55, c56, c57, c58, c59, c60, c61, c62, c63, c64, c65, c66, c67, c68, c69, c70, c71, c72, c73, c74, c75, c76, c77, c78, c79, c80, c81, c82, c83, c84, c85, c86, c87, c88, c89, c90, c91, c92, c93, c94, c95, c96, c97, c98, c99, c100, c101, c102, c103, c104, c105, c106, c107, c108, c109, c110, c111, c112, c113, c114, c115, c116, c117, c118, c119, c120, c121, c122, c123, c124, u125, u126, u127, u128, u129, u130, u131, u132, u133, u134, u135, u136, u137, u138, u139, u140, u141, c142, c143, c144, c145, c146, c147, c148, c149, c150, c151, c152, c153, c154, c155, c156, c157, c158, c159, c160, c161, c162, c163, c164, c165, c166, c167, c168, c169, c170, c171, c172, c173, c174, c175, c176, c177, c178, c179, c180, c181, c182, c183, c184, c185, c186], []⟩ w')
    : Code.wp Tryd.prog ((Pc.blk 5 (Tryd.f12.body.getD .skip)).getD .skip) Q ⟨#[.string s, c1, c2, c3, c4, c5, .int .i64 ((W : Nat) : Int), c7, c8, c9, .pointer (some ⟨pb, 0, none⟩), .int .i64 ((col : Nat) : Int), .int .i64 ((row : Nat) : Int), c13, .int .i64 ((n : Nat) : Int), c15, c16, .int .u8 ((c.toNat : Nat) : Int), .int .i64 0, c19, c20, c21, c22, c23, c24, c25, c26, c27, c28, c29, c30, c31, c32, c33, c34, c35, c36, c37, c38, c39, c40, c41, c42, c43, c44, c45, c46, c47, c48, c49, c50, c51, c52, c53, c54, c55, c56, c57, c58, c59, c60, c61, c62, c63, c64, c65, c66, c67, c68, c69, c70, c71, c72, c73, c74, c75, c76, c77, c78, c79, c80, c81, c82, c83, c84, c85, c86, c87, c88, c89, c90, c91, c92, c93, c94, c95, c96, c97, c98, c99, c100, c101, c102, c103, c104, c105, c106, c107, c108, c109, c110, c111, c112, c113, c114, c115, c116, c117, c118, c119, c120, c121, c122, c123, c124, c125, c126, c127, c128, c129, c130, c131, c132, c133, c134, c135, c136, c137, c138, c139, c140, c141, c142, c143, c144, c145, c146, c147, c148, c149, c150, c151, c152, c153, c154, c155, c156, c157, c158, c159, c160, c161, c162, c163, c164, c165, c166, c167, c168, c169, c170, c171, c172, c173, c174, c175, c176, c177, c178, c179, c180, c181, c182, c183, c184, c185, c186], []⟩ w := by
  conv => arg 2; whnf
  have HN := Lib.hid hN
  have HWB := Lib.hid hW
  have HHB := Lib.hid hH
  have HRW := Lib.hid hr
  have HCW := Lib.hid hcw
  have HV := Lib.hid hV
  have HP := Lib.hid hP
  have HPG := Lib.hid hpg
  have HB := Lib.hid hb
  have HV0 : Hid (Vec w g N (fill F (row * W + col) 0)) := Lib.hid (hV.congr fun k _ => by unfold fill; rw [if_neg (by omega)])
  clear hN hW hH hr hcw hV hP hpg hb
  by_cases hc : c = 111
  · skip
    have hq1 : ((c.toNat : Int) == 111) = true := byte_eq (k := 111) (by decide) hc
    have HNX : Hid ((if c = 111 then fill F (row * W + col) n else F) = fill F (row * W + col) n) := Lib.hid (if_pos hc)
    rw [HNX.out] at hnext
    clear hc
    go_wp2_with fail
    go_loopw [18] (fun v wx => ∃ j : Nat, v = .int .i64 ((j : Nat) : Int) ∧ j ≤ n ∧ Vec wx g N (fill F (row * W + col) j) ∧ Row wx pb 35 (boxP (W : Nat) (H : Nat) (some ⟨g, 0, none⟩) N N2) ∧ (∀ b T cs, b ≠ g → Row w b T cs → Row wx b T cs) ∧ Below w0.heap.size w0 wx) (fun v _ => n - (RowKit.intOf v).toNat)
    case atStart => exact ⟨0, rfl, Nat.zero_le _, HV0.out, HP.out, fun _ _ _ _ h => h, HB.out⟩
    case round =>
      clear HV HP HB HV0
      obtain ⟨j, rfl, hj, hv, hp, hkk, hb⟩ := hrel
      have HV := Lib.hid hv
      have HP := Lib.hid hp
      have HKK := Lib.hid hkk
      have HB := Lib.hid hb
      clear hv hp hkk hb
      by_cases hjn : j < n
      · have hji : (j : Int) < (n : Int) := by omega
        have HJ : Hid (j + 1 ≤ n) := Lib.hid hjn
        have hwb := HWB.out
        have hcw := HCW.out
        have E1 : Hid (wrap64 ((j : Int) + 1) = ((j + 1 : Nat) : Int)) := Lib.hid (wr_nat (by push_cast; rfl) (by omega))
        clear hj hjn hwb hcw
        obtain ⟨q, k, hq, hk, hkn, e1, e2, e3⟩ := draw_nums (W := W) (x := col + j) (y := row) (by have := HCW.out; have := HJ.out; omega) HRW.out HN.out HWB.out HHB.out
        have Q1 := Lib.hid e1
        clear e1 e2 e3
        have hn4 : N ≤ 10000 := by rw [HN.out]; exact Nat.mul_le_mul HWB.out HHB.out
        obtain ⟨qc, hqc⟩ : ∃ qc, qc = q + col := ⟨_, rfl⟩
        have Q2 : Hid (wrap64 ((q : Int) + (col : Int)) = (qc : Int)) := Lib.hid (wr_nat (by rw [hqc]; push_cast; rfl) (by omega))
        have Q3 : Hid (wrap64 ((qc : Int) + (j : Int)) = (k : Int)) := Lib.hid (wr_nat (by rw [hqc, hk, ← hq]; push_cast; omega) (by omega))
        have hki : (k : Int) < (N : Int) := Int.ofNat_lt.2 hkn
        have p2 := HP.out.cell 2
        unfold boxP at p2
        dsimp only [List.getElem?_cons_succ, List.getElem?_cons_zero] at p2
        have c5 := HV.out.cell hkn
        have z5 := HV.out.frozen k
        have HV9 : Hid (Vec (wr.setCell ⟨g, k, none⟩ (.int .i64 ((1 : Nat) : Int))) g N (fill F (row * W + col) (j + 1))) := Lib.hid (HV.out.set hkn (fun m hm hne => by
          unfold fill
          by_cases h : row * W + col ≤ m ∧ m < row * W + col + j
          · rw [if_pos h, if_pos (by omega)]
          · rw [if_neg h, if_neg (by omega)]) (by unfold fill; rw [if_pos (by omega)]))
        have hon := only_setCell wr g k (.int .i64 ((1 : Nat) : Int))
        have HP9 := Lib.hid (HP.out.other hon HPG.out.1)
        have HK9 : Hid (∀ b T cs, b ≠ g → Row w b T cs → Row (wr.setCell ⟨g, k, none⟩ (.int .i64 ((1 : Nat) : Int))) b T cs) := Lib.hid (fun b T cs hb h => (HKK.out b T cs hb h).other hon hb)
        have HB9 := Lib.hid (HB.out.trans (hon.below HPG.out.2))
        clear hon hq hk hkn hqc hn4
        have e1 := Q1.out
        have e2 := Q2.out
        have e3 := Q3.out
        go_upto_region 32 with fail
        clear e1 e2 e3 p2 c5 z5 hki
        change Code.wp _ _ _ _ (wr.setCell ⟨g, k, none⟩ (.int .i64 ((1 : Nat) : Int)))
        generalize wr.setCell ⟨g, k, none⟩ (.int .i64 ((1 : Nat) : Int)) = w9 at *
        go_wp2_with fail
        go_roundw
        case rel => exact ⟨j + 1, congrArg (Value.int .i64) E1.out, HJ.out, HV9.out, HP9.out, HK9.out, HB9.out⟩
        case measure => exact meas E1.out (by have := HJ.out; omega)
      · obtain rfl : j = n := by omega
        have hji : ¬ (j : Int) < (j : Int) := by omega
        clear hj hjn
        go_wp2_with fail
        exact hnext HV.out HP.out HKK.out HB.out
  · clear HV0
    have hq1 : ((c.toNat : Int) == 111) = false := byte_ne (k := 111) (by decide) hc
    have HNX : Hid ((if c = 111 then fill F (row * W + col) n else F) = F) := Lib.hid (if_neg hc)
    rw [HNX.out] at hnext
    clear hc
    go_wp2_with fail
    go_loopw [18] (fun v wx => ∃ j : Nat, v = .int .i64 ((j : Nat) : Int) ∧ j ≤ n ∧ Vec wx g N (F) ∧ Row wx pb 35 (boxP (W : Nat) (H : Nat) (some ⟨g, 0, none⟩) N N2) ∧ (∀ b T cs, b ≠ g → Row w b T cs → Row wx b T cs) ∧ Below w0.heap.size w0 wx) (fun v _ => n - (RowKit.intOf v).toNat)
    case atStart => exact ⟨0, rfl, Nat.zero_le _, HV.out, HP.out, fun _ _ _ _ h => h, HB.out⟩
    case round =>
      clear HV HP HB
      obtain ⟨j, rfl, hj, hv, hp, hkk, hb⟩ := hrel
      have HV := Lib.hid hv
      have HP := Lib.hid hp
      have HKK := Lib.hid hkk
      have HB := Lib.hid hb
      clear hv hp hkk hb
      by_cases hjn : j < n
      · have hji : (j : Int) < (n : Int) := by omega
        have HJ : Hid (j + 1 ≤ n) := Lib.hid hjn
        have hwb := HWB.out
        have hcw := HCW.out
        have E1 : Hid (wrap64 ((j : Int) + 1) = ((j + 1 : Nat) : Int)) := Lib.hid (wr_nat (by push_cast; rfl) (by omega))
        clear hj hjn hwb hcw
        go_wp2_with fail
        go_roundw
        case rel => exact ⟨j + 1, congrArg (Value.int .i64) E1.out, HJ.out, HV.out, HP.out, HKK.out, HB.out⟩
        case measure => exact meas E1.out (by have := HJ.out; omega)
      · obtain rfl : j = n := by omega
        have hji : ¬ (j : Int) < (j : Int) := by omega
        clear hj hjn
        go_wp2_with fail
        exact hnext HV.out HP.out HKK.out HB.out
end Pr
end Go.Proofs.YtgagophijmiceaaDoor
