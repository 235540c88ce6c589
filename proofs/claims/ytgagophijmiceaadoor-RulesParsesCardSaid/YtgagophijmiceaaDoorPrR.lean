/- Several texts laid together: PrR1 PrR2 PrR3 PrR4 PrR5 PrR6 PrR. -/
import Derived.Test.YtgagophijmiceaaDoorPrH
import Derived.Test.YtgagophijmiceaaDoorPwDrPl
import Derived.Test.YtgagophijmiceaaDoorPnM
import Derived.WalkMore
import Derived.ScopeJumps
import Derived.Test.YtgagophijmiceaaDoorPrH
/- WALK, PIECES: pattern.ParseRuns: blanks. -/
namespace Go.Proofs.YtgagophijmiceaaDoor
set_option linter.unusedSimpArgs false
set_option linter.unusedVariables false
open Go.RowKit
namespace Pr
open Tld Mem Bl Pn Pw Rd

theorem twp_lt (p : UInt8 → Bool) : ∀ {l : List UInt8} {j : Nat}, j < (l.takeWhile p).length → j < l.length ∧ p (l.getD j 0) = true
  | [], j, h => by simp at h
  | c :: l, j, h => by
    rw [List.takeWhile_cons] at h
    split at h
    · rename_i hc
      match j, h with
      | 0, _ => exact ⟨by simp, hc⟩
      | j + 1, h =>
        have := twp_lt p (l := l) (j := j) (by simpa using h)
        simpa using this
    · simp at h
theorem twp_end (p : UInt8 → Bool) : ∀ {l : List UInt8}, (l.takeWhile p).length < l.length → p (l.getD (l.takeWhile p).length 0) = false
  | [], h => by simp at h
  | c :: l, h => by
    rw [List.takeWhile_cons] at h ⊢
    split at h
    · rename_i hc
      rw [if_pos hc]
      have := twp_end p (l := l) (by simpa using h)
      simpa using this
    · rename_i hc
      rw [if_neg hc]
      simpa using hc
theorem twp_le (p : UInt8 → Bool) (l : List UInt8) : (l.takeWhile p).length ≤ l.length := by
  induction l with
  | nil => simp
  | cons c l ih => rw [List.takeWhile_cons]; split <;> simp <;> omega
/-- How many blanks from a place on. -/
def bln (s : ByteArray) (i : Nat) : Nat := ((s.data.toList.drop i).takeWhile blB).length
theorem skp_bln (s : ByteArray) (i : Nat) : skp s.data.toList i = i + bln s i := rfl
theorem bln_le (s : ByteArray) (i : Nat) (hi : i ≤ s.size) : i + bln s i ≤ s.size := by
  have h := twp_le blB (s.data.toList.drop i)
  rw [List.length_drop, ← Lib.size_eq] at h
  unfold bln
  omega
theorem bln_lt {s : ByteArray} {i j : Nat} (h : j < bln s i) : i + j < s.size ∧ blB (s.data.toList.getD (i + j) 0) = true := by
  have h := twp_lt blB h
  rw [drop_getD] at h
  have h1 := h.1
  rw [List.length_drop, ← Lib.size_eq] at h1
  exact ⟨by omega, h.2⟩
theorem bln_end {s : ByteArray} {i : Nat} (h : i + bln s i < s.size) : blB (s.data.toList.getD (i + bln s i) 0) = false := by
  have h := twp_end blB (l := s.data.toList.drop i) (by rw [List.length_drop, ← Lib.size_eq]; unfold bln at h; omega)
  rw [drop_getD] at h
  exact h
theorem byte_eq {x : UInt8} {k : Nat} (hk : k < 256) (h : x = UInt8.ofNat k) : ((x.toNat : Int) == (k : Int)) = true := by
  rw [h, beq_iff_eq, UInt8.toNat_ofNat']
  have : k % 2 ^ 8 = k := Nat.mod_eq_of_lt (by omega)
  rw [this]
theorem byte_ne {x : UInt8} {k : Nat} (hk : k < 256) (h : x ≠ UInt8.ofNat k) : ((x.toNat : Int) == (k : Int)) = false := by
  rw [beq_eq_false_iff_ne]
  intro e
  apply h
  have e2 : x.toNat = k := by exact_mod_cast e
  rw [← e2, UInt8.ofNat_toNat]

set_option maxHeartbeats 8000000 in
set_option maxRecDepth 1000000 in
theorem rn_skip (w : World) (s : ByteArray) (i : Nat) (hs : s.size ≤ 40000) (hi : i ≤ s.size)
    (c1 c2 c3 c4 c5 c7 c8 c9 c10 c11 c12 c13 c14 c15 c16 c17 c18 c19 c20 c21 c22 c23 c24 c25 c26 c27 c28 c29 c30 c31 c32 c33 c34 c35 c36 c37 c38 c39 c40 c41 c42 c43 c44 c45 c46 c47 c48 c49 c50 c51 c52 c53 c54 c55 c56 c57 c58 c59 c60 c61 c62 c63 c64 c65 c66 c67 c68 c69 c70 c71 c72 c73 c74 c75 c76 c77 c78 c79 c80 c81 c82 c83 c84 c85 c86 c87 c88 c89 c90 c91 c92 c93 c94 c95 c96 c97 c98 c99 c100 c101 c102 c103 c104 c105 c106 c107 c108 c109 c110 c111 c112 c113 c114 c115 c116 c117 c118 c119 c120 c121 c122 c123 c124 c125 c126 c127 c128 c129 c130 c131 c132 c133 c134 c135 c136 c137 c138 c139 c140 c141 c142 c143 c144 c145 c146 c147 c148 c149 c150 c151 c152 c153 c154 c155 c156 c157 c158 c159 c160 c161 c162 c163 c164 c165 c166 c167 c168 c169 c170 c171 c172 c173 c174 c175 c176 c177 c178 c179 c180 c181 c182 c183 c184 c185 c186 c187 c188 c189 c190 c191 c192 c193 c194 c195 c196 c197 c198 c199 c200 c201 c202 c203 c204 c205 c206 : Value) (Q : Exit → Act → World → Prop)
    (hnext : ∀ {u38 u39 u40 u41 u42 u43 u44 u45 u46 u47 u48 u49 u50 u51 u52 u53 u54 u55 : Value} {w' : World}, w' = w → Q .normal ⟨#[.string s, c1, c2, c3, c4, c5, .int .i64 ((i + bln s i : Nat) : Int), c7, c8, c9, c10, c11, c12, c13, c14, c15, c16, c17, c18, c19, c20, c21, c22, c23, c24, c25, c26, c27, c28, c29, c30, c31, c32, c33, c34, c35, c36, c37, u38, u39, u40, u41, u42, u43, u44, u45, u46, u47, u48, u49, u50, u51, u52, u53, u54, u55, c56, c57, c58, c59, c60, c61, c62, c63, c64, c65, c66, c67, c68, c69, c70, c71, c72, c73, c74, c75, c76, c77, c78, c79, c80, c81, c82, c83, c84, c85, c86, c87, c88, c89, c90, c91, c92, c93, c94, c95, c96, c97, c98, c99, c100, c101, c102, c103, c104, c105, c106, c107, c108, c109, c110, c111, c112, c113, c114, c115, c116, c117, c118, c119, c120, c121, c122, c123, c124, c125, c126, c127, c128, c129, c130, c131, c132, c133, c134, c135, c136, c137, c138, c139, c140, c141, c142, c143, c144, c145, c146, c147, c148, c149, c150, c151, c152, c153, c154, c155, c156, c157, c158, c159, c160, c161, c162, c163, c164, c165, c166, c167, c168, c169, c170, c171, c172, c173, c174, c175, c176, c177, c178, c179, c180, c181, c182, c183, c184, c185, c186, c187, c188, c189, c190, c191, c192, c193, c194, c195, c196, c197, c198, c199, c200, c201, c202, c203, c204, c205, c206], []⟩ w')
    : Code.wp Tryd.prog ((Pc.blk 0 (Tryd.f11.body.getD .skip)).getD .skip) Q ⟨#[.string s, c1, c2, c3, c4, c5, .int .i64 ((i : Nat) : Int), c7, c8, c9, c10, c11, c12, c13, c14, c15, c16, c17, c18, c19, c20, c21, c22, c23, c24, c25, c26, c27, c28, c29, c30, c31, c32, c33, c34, c35, c36, c37, c38, c39, c40, c41, c42, c43, c44, c45, c46, c47, c48, c49, c50, c51, c52, c53, c54, c55, c56, c57, c58, c59, c60, c61, c62, c63, c64, c65, c66, c67, c68, c69, c70, c71, c72, c73, c74, c75, c76, c77, c78, c79, c80, c81, c82, c83, c84, c85, c86, c87, c88, c89, c90, c91, c92, c93, c94, c95, c96, c97, c98, c99, c100, c101, c102, c103, c104, c105, c106, c107, c108, c109, c110, c111, c112, c113, c114, c115, c116, c117, c118, c119, c120, c121, c122, c123, c124, c125, c126, c127, c128, c129, c130, c131, c132, c133, c134, c135, c136, c137, c138, c139, c140, c141, c142, c143, c144, c145, c146, c147, c148, c149, c150, c151, c152, c153, c154, c155, c156, c157, c158, c159, c160, c161, c162, c163, c164, c165, c166, c167, c168, c169, c170, c171, c172, c173, c174, c175, c176, c177, c178, c179, c180, c181, c182, c183, c184, c185, c186, c187, c188, c189, c190, c191, c192, c193, c194, c195, c196, c197, c198, c199, c200, c201, c202, c203, c204, c205, c206], []⟩ w := by
  conv => arg 2; whnf
  have HSZ := Lib.hid hs
  have HLT : Hid (∀ j, j < bln s i → i + j < s.size ∧ blB (s.data.toList.getD (i + j) 0) = true) := Lib.hid (fun j hj => bln_lt hj)
  have HEND : Hid (i + bln s i < s.size → blB (s.data.toList.getD (i + bln s i) 0) = false) := Lib.hid bln_end
  have HLE := Lib.hid (bln_le s i hi)
  generalize bln s i = K at *
  clear hs hi
  go_wp2_with fail
  go_loopw [6] (fun v wx => (∃ j : Nat, v = .int .i64 ((i + j : Nat) : Int) ∧ j ≤ K) ∧ w = wx) (fun v _ => s.size + 2 - (RowKit.intOf v).toNat)
  case atStart => exact ⟨⟨0, rfl, Nat.zero_le _⟩, rfl⟩
  case round =>
    obtain ⟨⟨j, rfl, hj⟩, rfl⟩ := hrel
    obtain ⟨z, hz⟩ : ∃ z, z = i + j := ⟨_, rfl⟩
    rw [← hz]
    have HZE := Lib.hid hz
    by_cases hjl : j < K
    · have h3 := HLT.out j hjl
      rw [← hz] at h3
      have hzs := h3.1
      have hbl := h3.2
      have hzi : (z : Int) < (s.size : Int) := by omega
      have hg := get_drop s hzs
      obtain ⟨x, hx⟩ : ∃ x, x = s.data.toList.getD z 0 := ⟨_, rfl⟩
      rw [← hx] at hg hbl
      have HJ : Hid (j + 1 ≤ K) := Lib.hid hjl
      have E1 : Hid (wrap64 ((z : Int) + 1) = ((i + (j + 1) : Nat) : Int)) := Lib.hid (wr_nat (by rw [hz]; push_cast; omega) (by have := HSZ.out; omega))
      have HZS := Lib.hid hzs
      clear h3 hx hz hjl hj
      by_cases hx32 : x = 32
      · have q1 : ((x.toNat : Int) == 32) = true := byte_eq (k := 32) (by decide) hx32
        have q2 : ((x.toNat : Int) != 32) = false := by rw [bne, q1]; rfl
        clear hx32
        clear hbl
        go_wp2_with fail
        go_roundw
        case rel => exact ⟨⟨j + 1, congrArg (Value.int .i64) E1.out, HJ.out⟩, trivial⟩
        case measure => exact meas E1.out (by have := HJ.out; have := HZE.out; have := HZS.out; omega)
      · have q1 : ((x.toNat : Int) == 32) = false := byte_ne (k := 32) (by decide) hx32
        have q2 : ((x.toNat : Int) != 32) = true := by rw [bne, q1]; rfl
        have hx10 : x = 10 := by
          unfold blB at hbl
          rcases of_decide_eq_true hbl with h | h
          · exact absurd h hx32
          · exact h
        have q3 : ((x.toNat : Int) == 10) = true := byte_eq (k := 10) (by decide) hx10
        have q4 : ((x.toNat : Int) != 10) = false := by rw [bne, q3]; rfl
        clear hx32 hx10
        clear hbl
        go_wp2_with fail
        go_roundw
        case rel => exact ⟨⟨j + 1, congrArg (Value.int .i64) E1.out, HJ.out⟩, trivial⟩
        case measure => exact meas E1.out (by have := HJ.out; have := HZE.out; have := HZS.out; omega)
    · obtain rfl : j = K := by omega
      clear hjl hj
      by_cases hzs : z < s.size
      · have hg := get_drop s hzs
        have hbl := HEND.out (by rw [← hz]; exact hzs)
        rw [← hz] at hbl
        obtain ⟨x, hx⟩ : ∃ x, x = s.data.toList.getD z 0 := ⟨_, rfl⟩
        rw [← hx] at hg hbl
        have hzi : (z : Int) < (s.size : Int) := by omega
        clear hx hz
        have hno : x ≠ 32 ∧ x ≠ 10 := by
          unfold blB at hbl
          have h := of_decide_eq_false hbl
          exact ⟨fun e => h (.inl e), fun e => h (.inr e)⟩
        have q1 : ((x.toNat : Int) == 32) = false := byte_ne (k := 32) (by decide) hno.1
        have q2 : ((x.toNat : Int) != 32) = true := by rw [bne, q1]; rfl
        have q3 : ((x.toNat : Int) == 10) = false := byte_ne (k := 10) (by decide) hno.2
        have q4 : ((x.toNat : Int) != 10) = true := by rw [bne, q3]; rfl
        clear hno
        clear hbl
        go_wp2_with fail
        obtain rfl := HZE.out
        exact hnext rfl
      · have hzi : ¬ (z : Int) < (s.size : Int) := by omega
        clear hz
        go_wp2_with fail
        obtain rfl := HZE.out
        exact hnext rfl
end Pr
end Go.Proofs.YtgagophijmiceaaDoor

/- WALK, PIECES: pattern.ParseRuns: digits. -/
namespace Go.Proofs.YtgagophijmiceaaDoor
set_option linter.unusedSimpArgs false
set_option linter.unusedVariables false
open Go.RowKit
namespace Pr
open Tld Mem Bl Pn Pw Rd

set_option maxHeartbeats 8000000 in
set_option maxRecDepth 1000000 in
theorem rn_digits (w : World) (s : ByteArray) (i : Nat) (ds : List UInt8) (hs : s.size ≤ 40000) (hi : i ≤ s.size) (hds : ds = dgs s.data.toList i)
    (c1 c2 c3 c4 c5 c7 c8 c9 c10 c12 c13 c14 c15 c16 c17 c18 c19 c20 c21 c22 c23 c24 c25 c26 c27 c28 c29 c30 c31 c32 c33 c34 c35 c36 c37 c38 c39 c40 c41 c42 c43 c44 c45 c46 c47 c48 c49 c50 c51 c52 c53 c54 c55 c56 c57 c58 c59 c60 c61 c62 c63 c64 c65 c66 c67 c68 c69 c70 c71 c72 c73 c74 c75 c76 c77 c78 c79 c80 c81 c82 c83 c84 c85 c86 c87 c88 c89 c90 c91 c92 c93 c94 c95 c96 c97 c98 c99 c100 c101 c102 c103 c104 c105 c106 c107 c108 c109 c110 c111 c112 c113 c114 c115 c116 c117 c118 c119 c120 c121 c122 c123 c124 c125 c126 c127 c128 c129 c130 c131 c132 c133 c134 c135 c136 c137 c138 c139 c140 c141 c142 c143 c144 c145 c146 c147 c148 c149 c150 c151 c152 c153 c154 c155 c156 c157 c158 c159 c160 c161 c162 c163 c164 c165 c166 c167 c168 c169 c170 c171 c172 c173 c174 c175 c176 c177 c178 c179 c180 c181 c182 c183 c184 c185 c186 c187 c188 c189 c190 c191 c192 c193 c194 c195 c196 c197 c198 c199 c200 c201 c202 c203 c204 c205 c206 : Value) (Q : Exit → Act → World → Prop)
    (hnext : ∀ {u57 u58 u59 u60 u61 u62 u63 u64 u65 u66 u67 u68 u69 u70 u71 u72 u73 u74 u75 u76 u77 u78 u79 u80 u81 u82 u83 : Value} {w' : World}, w' = w → Q .normal ⟨#[.string s, c1, c2, c3, c4, c5, .int .i64 ((i + ds.length : Nat) : Int), c7, c8, c9, c10, .int .i64 (macc ds), c12, c13, c14, c15, c16, c17, c18, c19, c20, c21, c22, c23, c24, c25, c26, c27, c28, c29, c30, c31, c32, c33, c34, c35, c36, c37, c38, c39, c40, c41, c42, c43, c44, c45, c46, c47, c48, c49, c50, c51, c52, c53, c54, c55, c56, u57, u58, u59, u60, u61, u62, u63, u64, u65, u66, u67, u68, u69, u70, u71, u72, u73, u74, u75, u76, u77, u78, u79, u80, u81, u82, u83, c84, c85, c86, c87, c88, c89, c90, c91, c92, c93, c94, c95, c96, c97, c98, c99, c100, c101, c102, c103, c104, c105, c106, c107, c108, c109, c110, c111, c112, c113, c114, c115, c116, c117, c118, c119, c120, c121, c122, c123, c124, c125, c126, c127, c128, c129, c130, c131, c132, c133, c134, c135, c136, c137, c138, c139, c140, c141, c142, c143, c144, c145, c146, c147, c148, c149, c150, c151, c152, c153, c154, c155, c156, c157, c158, c159, c160, c161, c162, c163, c164, c165, c166, c167, c168, c169, c170, c171, c172, c173, c174, c175, c176, c177, c178, c179, c180, c181, c182, c183, c184, c185, c186, c187, c188, c189, c190, c191, c192, c193, c194, c195, c196, c197, c198, c199, c200, c201, c202, c203, c204, c205, c206], []⟩ w')
    : Code.wp Tryd.prog ((Pc.blk 2 (Tryd.f11.body.getD .skip)).getD .skip) Q ⟨#[.string s, c1, c2, c3, c4, c5, .int .i64 ((i : Nat) : Int), c7, c8, c9, c10, .int .i64 0, c12, c13, c14, c15, c16, c17, c18, c19, c20, c21, c22, c23, c24, c25, c26, c27, c28, c29, c30, c31, c32, c33, c34, c35, c36, c37, c38, c39, c40, c41, c42, c43, c44, c45, c46, c47, c48, c49, c50, c51, c52, c53, c54, c55, c56, c57, c58, c59, c60, c61, c62, c63, c64, c65, c66, c67, c68, c69, c70, c71, c72, c73, c74, c75, c76, c77, c78, c79, c80, c81, c82, c83, c84, c85, c86, c87, c88, c89, c90, c91, c92, c93, c94, c95, c96, c97, c98, c99, c100, c101, c102, c103, c104, c105, c106, c107, c108, c109, c110, c111, c112, c113, c114, c115, c116, c117, c118, c119, c120, c121, c122, c123, c124, c125, c126, c127, c128, c129, c130, c131, c132, c133, c134, c135, c136, c137, c138, c139, c140, c141, c142, c143, c144, c145, c146, c147, c148, c149, c150, c151, c152, c153, c154, c155, c156, c157, c158, c159, c160, c161, c162, c163, c164, c165, c166, c167, c168, c169, c170, c171, c172, c173, c174, c175, c176, c177, c178, c179, c180, c181, c182, c183, c184, c185, c186, c187, c188, c189, c190, c191, c192, c193, c194, c195, c196, c197, c198, c199, c200, c201, c202, c203, c204, c205, c206], []⟩ w := by
  conv => arg 2; whnf
  have HSZ := Lib.hid hs
  have HALL : Hid (∀ b ∈ ds, digB b = true) := Lib.hid (by rw [hds]; exact digs_all s i)
  have HLT : Hid (∀ j, j < ds.length → i + j < s.size ∧ ds.getD j 0 = s.data.toList.getD (i + j) 0 ∧ digB (s.data.toList.getD (i + j) 0) = true) := Lib.hid (by rw [hds]; exact fun j hj => digs_lt hj)
  have HEND : Hid (i + ds.length < s.size → digB (s.data.toList.getD (i + ds.length) 0) = false) := Lib.hid (by rw [hds]; exact digs_end)
  clear hs hi hds
  go_wp2_with fail
  go_loopw [6, 11] (fun v u wx => (∃ j : Nat, ∃ m : Int, v = .int .i64 ((i + j : Nat) : Int) ∧ u = .int .i64 m ∧ j ≤ ds.length ∧ m = macc (ds.take j)) ∧ w = wx) (fun v _ _ => s.size + 2 - (RowKit.intOf v).toNat)
  case atStart => exact ⟨⟨0, 0, rfl, rfl, Nat.zero_le _, rfl⟩, rfl⟩
  case round =>
    obtain ⟨⟨j, m, rfl, rfl, hj, hm⟩, rfl⟩ := hrel
    have HM := Lib.hid hm
    have hmb := macc_b HALL.out j
    rw [← hm] at hmb
    have hmb1 := hmb.1
    have hmb2 := hmb.2
    clear hm hmb
    obtain ⟨z, hz⟩ : ∃ z, z = i + j := ⟨_, rfl⟩
    rw [← hz]
    have HZE := Lib.hid hz
    by_cases hjl : j < ds.length
    · have h3 := HLT.out j hjl
      rw [← hz] at h3
      have hzs := h3.1
      have hzi : (z : Int) < (s.size : Int) := by omega
      have hg := get_drop s hzs
      have hd := dig_num h3.2.2
      obtain ⟨x, hx⟩ : ∃ x, x = s.data.toList.getD z 0 := ⟨_, rfl⟩
      rw [← hx] at hg hd
      have hx1 : (48 : Int) ≤ (x.toNat : Int) := by omega
      have hx2 : (x.toNat : Int) ≤ 57 := by omega
      obtain ⟨m3, hm3⟩ : ∃ m3, m3 = m * 10 + ((x.toNat : Int) - 48) := ⟨_, rfl⟩
      have HMN : Hid (macc (ds.take (j + 1)) = min m3 10000000) := Lib.hid (by rw [macc_next hjl, ← HM.out, h3.2.1, ← hx, hm3]; rfl)
      have HJ : Hid (j + 1 ≤ ds.length) := Lib.hid hjl
      have E1 : Hid (wrap64 ((z : Int) + 1) = ((i + (j + 1) : Nat) : Int)) := Lib.hid (wr_nat (by rw [hz]; push_cast; omega) (by have := HSZ.out; omega))
      have HZS := Lib.hid hzs
      have w1 : wrap64 (m * 10) = m * 10 := wr_big (by omega) (by omega)
      have w8 : IntKind.u8.wrap ((x.toNat : Int) - 48) = (x.toNat : Int) - 48 := u8_in (by omega) (by omega)
      have w2 : wrap64 (m * 10 + ((x.toNat : Int) - 48)) = m3 := by rw [hm3]; exact wr_big (by omega) (by omega)
      have w3 : wrap64 ((x.toNat : Int) - 48) = (x.toNat : Int) - 48 := wr_big (by omega) (by omega)
      have w1' := wr_same w1
      have w2' := wr_same w2
      have w3' := wr_same w3
      clear h3 hd hx hz hjl hj hm3
      by_cases hle : m3 ≤ 10000000
      · have HM2 : Hid (m3 = macc (ds.take (j + 1))) := Lib.hid (by rw [HMN.out, Int.min_eq_left hle])
        have hmin : min m3 10000000 = m3 := Int.min_eq_left hle
        go_wp2_with fail
        go_roundw
        case rel => exact ⟨⟨j + 1, m3, congrArg (Value.int .i64) E1.out, rfl, HJ.out, HM2.out⟩, trivial⟩
        case measure => exact meas E1.out (by have := HJ.out; have := HZE.out; have := HZS.out; omega)
      · have HM2 : Hid (10000000 = macc (ds.take (j + 1))) := Lib.hid (by rw [HMN.out, Int.min_eq_right (by omega)])
        have hmin : min m3 10000000 = 10000000 := Int.min_eq_right (by clear w1 w2 w3 w8 w1' w2' w3'; omega)
        go_wp2_with fail
        go_roundw
        case rel => exact ⟨⟨j + 1, 10000000, congrArg (Value.int .i64) E1.out, rfl, HJ.out, HM2.out⟩, trivial⟩
        case measure => exact meas E1.out (by have := HJ.out; have := HZE.out; have := HZS.out; omega)
    · obtain rfl : j = ds.length := by omega
      have HMV : Hid (m = macc ds) := Lib.hid (by have h := HM.out; rw [List.take_length] at h; exact h)
      clear hjl hj
      by_cases hzs : z < s.size
      · have hg := get_drop s hzs
        have hd := HEND.out (by rw [← hz]; exact hzs)
        rw [← hz] at hd
        obtain ⟨x, hx⟩ : ∃ x, x = s.data.toList.getD z 0 := ⟨_, rfl⟩
        rw [← hx] at hg hd
        have hnd : (x.toNat : Int) < 48 ∨ (57 : Int) < (x.toNat : Int) := by
          unfold digB at hd
          have := of_decide_eq_false hd
          omega
        have hzi : (z : Int) < (s.size : Int) := by omega
        clear hx hd hz
        rcases hnd with hnd | hnd
        · have hn2 : ¬ (48 : Int) ≤ (x.toNat : Int) := by omega
          go_wp2_with fail
          obtain rfl := HZE.out
          rw [HMV.out]
          exact hnext rfl
        · have h48 : (48 : Int) ≤ (x.toNat : Int) := by omega
          have hn2 : ¬ (x.toNat : Int) ≤ 57 := by omega
          go_wp2_with fail
          obtain rfl := HZE.out
          rw [HMV.out]
          exact hnext rfl
      · have hzi : ¬ (z : Int) < (s.size : Int) := by omega
        clear hz
        go_wp2_with fail
        obtain rfl := HZE.out
        rw [HMV.out]
        exact hnext rfl
end Pr
end Go.Proofs.YtgagophijmiceaaDoor

/- WALK, PIECES: pattern.ParseRuns: the cells of a run. -/
namespace Go.Proofs.YtgagophijmiceaaDoor
set_option linter.unusedSimpArgs false
set_option linter.unusedVariables false
open Go.RowKit
namespace Pr
open Tld Mem Bl Pn Pw Rd

set_option maxHeartbeats 8000000 in
set_option maxRecDepth 1000000 in
theorem rn_fill (w0 w : World) (s : ByteArray) (pb g W H N N2 i row col n : Nat) (c : UInt8) (F : Nat → Nat) (hi : i < s.size) (hc0 : s.data.toList.getD i 0 = c) (hN : N = W * H) (hW : W ≤ 100) (hH : H ≤ 100) (hr : row < H) (hcw : col + n ≤ W) (hV : Vec w g N F) (hP : Row w pb 35 (boxP (W : Nat) (H : Nat) (some ⟨g, 0, none⟩) N N2)) (hpg : pb ≠ g ∧ w0.heap.size ≤ g) (hb : Below w0.heap.size w0 w)
    (c1 c2 c3 c4 c7 c10 c11 c12 c13 c14 c15 c16 c17 c18 c19 c20 c21 c22 c23 c24 c25 c26 c27 c28 c29 c30 c31 c32 c33 c34 c35 c36 c37 c38 c39 c40 c41 c42 c43 c44 c45 c46 c47 c48 c49 c50 c51 c52 c53 c54 c55 c56 c57 c58 c59 c60 c61 c62 c63 c64 c65 c66 c67 c68 c69 c70 c71 c72 c73 c74 c75 c76 c77 c78 c79 c80 c81 c82 c83 c84 c85 c86 c87 c88 c89 c90 c91 c92 c93 c94 c95 c96 c97 c98 c99 c100 c101 c102 c103 c104 c105 c106 c107 c108 c109 c110 c111 c112 c113 c114 c115 c116 c117 c118 c119 c120 c121 c122 c123 c124 c125 c126 c127 c128 c129 c130 c131 c132 c133 c134 c135 c136 c139 c140 c141 c142 c143 c144 c145 c146 c147 c148 c149 c150 c151 c152 c153 c154 c155 c156 c157 c158 c159 c160 c161 c162 c163 c164 c165 c166 c167 c168 c169 c170 c171 c172 c173 c174 c175 c176 c177 c178 c179 c180 c181 c182 c183 c184 c185 c186 c187 c188 c189 c190 c191 c192 c193 c194 c195 c196 c197 c198 c199 c200 c201 c202 c203 c204 c205 c206 : Value) (Q : Exit → Act → World → Prop)
    (hnext : ∀ {u138 u139 u140 u141 u142 u143 u144 u145 u146 u147 u148 u149 u150 u151 u152 u153 u154 u155 : Value} {w' : World}, Vec w' g N ((if c = 111 then fill F (row * W + col) n else F)) → Row w' pb 35 (boxP (W : Nat) (H : Nat) (some ⟨g, 0, none⟩) N N2) → (∀ b T cs, b ≠ g → Row w b T cs → Row w' b T cs) → Below w0.heap.size w0 w' → Q .normal ⟨#[.string s, c1, c2, c3, c4, .pointer (some ⟨pb, 0, none⟩), .int .i64 ((i : Nat) : Int), c7, .int .i64 ((row : Nat) : Int), .int .i64 ((col + n : Nat) : Int), c10, c11, c12, c13, c14, c15, c16, c17, c18, c19, c20, c21, c22, c23, c24, c25, c26, c27, c28, c29, c30, c31, c32, c33, c34, c35, c36, c37, c38, c39, c40, c41, c42, c43, c44, c45, c46, c47, c48, c49, c50, c51, c52, c53, c54, c55, c56, c57, c58, c59, c60, c61, c62, c63, c64, c65, c66, c67, c68, c69, c70, c71, c72, c73, c74, c75, c76, c77, c78, c79, c80, c81, c82, c83, c84, c85, c86, c87, c88, c89, c90, c91, c92, c93, c94, c95, c96, c97, c98, c99, c100, c101, c102, c103, c104, c105, c106, c107, c108, c109, c110, c111, c112, c113, c114, c115, c116, c117, c118, c119, c120, c121, c122, c123, c124, c125, c126, c127, c128, c129, c130, c131, c132, c133, c134, c135, c136, .int .i64 ((n : Nat) : Int), u138, u139, u140, u141, u142, u143, u144, u145, u146, u147, u148, u149, u150, u151, u152, u153, u154, u155, c156, c157, c158, c159, c160, c161, c162, c163, c164, c165, c166, c167, c168, c169, c170, c171, c172, c173, c174, c175, c176, c177, c178, c179, c180, c181, c182, c183, c184, c185, c186, c187, c188, c189, c190, c191, c192, c193, c194, c195, c196, c197, c198, c199, c200, c201, c202, c203, c204, c205, c206], []⟩ w')
    : Code.wp Tryd.prog ((Pc.blk 5 (Tryd.f11.body.getD .skip)).getD .skip) Q ⟨#[.string s, c1, c2, c3, c4, .pointer (some ⟨pb, 0, none⟩), .int .i64 ((i : Nat) : Int), c7, .int .i64 ((row : Nat) : Int), .int .i64 ((col : Nat) : Int), c10, c11, c12, c13, c14, c15, c16, c17, c18, c19, c20, c21, c22, c23, c24, c25, c26, c27, c28, c29, c30, c31, c32, c33, c34, c35, c36, c37, c38, c39, c40, c41, c42, c43, c44, c45, c46, c47, c48, c49, c50, c51, c52, c53, c54, c55, c56, c57, c58, c59, c60, c61, c62, c63, c64, c65, c66, c67, c68, c69, c70, c71, c72, c73, c74, c75, c76, c77, c78, c79, c80, c81, c82, c83, c84, c85, c86, c87, c88, c89, c90, c91, c92, c93, c94, c95, c96, c97, c98, c99, c100, c101, c102, c103, c104, c105, c106, c107, c108, c109, c110, c111, c112, c113, c114, c115, c116, c117, c118, c119, c120, c121, c122, c123, c124, c125, c126, c127, c128, c129, c130, c131, c132, c133, c134, c135, c136, .int .i64 ((n : Nat) : Int), .int .i64 0, c139, c140, c141, c142, c143, c144, c145, c146, c147, c148, c149, c150, c151, c152, c153, c154, c155, c156, c157, c158, c159, c160, c161, c162, c163, c164, c165, c166, c167, c168, c169, c170, c171, c172, c173, c174, c175, c176, c177, c178, c179, c180, c181, c182, c183, c184, c185, c186, c187, c188, c189, c190, c191, c192, c193, c194, c195, c196, c197, c198, c199, c200, c201, c202, c203, c204, c205, c206], []⟩ w := by
  conv => arg 2; whnf
  have HI := Lib.hid hi
  have HC := Lib.hid hc0
  have HN := Lib.hid hN
  have HWB := Lib.hid hW
  have HHB := Lib.hid hH
  have HRW := Lib.hid hr
  have HCW := Lib.hid hcw
  have HV := Lib.hid hV
  have HP := Lib.hid hP
  have HPG := Lib.hid hpg
  have HB := Lib.hid hb
  have HV0 : Hid (Vec w g N (fill F (row * W + col) 0)) := Lib.hid (hV.congr fun k _ => by unfold fill; rw [if_neg (by omega)])
  clear hi hc0 hN hW hH hr hcw hV hP hpg hb
  by_cases hc : c = 111
  · skip
    have hq1 : ((c.toNat : Int) == 111) = true := byte_eq (k := 111) (by decide) hc
    have HNX : Hid ((if c = 111 then fill F (row * W + col) n else F) = fill F (row * W + col) n) := Lib.hid (if_pos hc)
    rw [HNX.out] at hnext
    clear hc
    go_wp2_with fail
    go_loopw [138, 9] (fun v u wx => ∃ j : Nat, v = .int .i64 ((j : Nat) : Int) ∧ u = .int .i64 ((col + j : Nat) : Int) ∧ j ≤ n ∧ Vec wx g N (fill F (row * W + col) j) ∧ Row wx pb 35 (boxP (W : Nat) (H : Nat) (some ⟨g, 0, none⟩) N N2) ∧ (∀ b T cs, b ≠ g → Row w b T cs → Row wx b T cs) ∧ Below w0.heap.size w0 wx) (fun v _ _ => n - (RowKit.intOf v).toNat)
    case atStart => exact ⟨0, rfl, rfl, Nat.zero_le _, HV0.out, HP.out, fun _ _ _ _ h => h, HB.out⟩
    case round =>
      clear HV HP HB HV0
      obtain ⟨j, rfl, rfl, hj, hv, hp, hkk, hb⟩ := hrel
      have HV := Lib.hid hv
      have HP := Lib.hid hp
      have HKK := Lib.hid hkk
      have HB := Lib.hid hb
      clear hv hp hkk hb
      obtain ⟨z, hz⟩ : ∃ z, z = col + j := ⟨_, rfl⟩
      rw [← hz]
      have HZE := Lib.hid hz
      by_cases hjn : j < n
      · have hji : (j : Int) < (n : Int) := by omega
        have HJ : Hid (j + 1 ≤ n) := Lib.hid hjn
        have hwb := HWB.out
        have hcw := HCW.out
        have E1 : Hid (wrap64 ((j : Int) + 1) = ((j + 1 : Nat) : Int)) := Lib.hid (wr_nat (by push_cast; rfl) (by omega))
        have E2 : Hid (wrap64 ((z : Int) + 1) = ((z + 1 : Nat) : Int)) := Lib.hid (wr_nat (by push_cast; rfl) (by omega))
        have E3 : Hid (((z + 1 : Nat) : Int) = ((col + (j + 1) : Nat) : Int)) := Lib.hid (by rw [HZE.out]; rfl)
        have hg := get_drop s HI.out
        rw [HC.out] at hg
        have hi9 := HI.out
        clear hj hz hjn hwb hcw
        obtain ⟨q, k, hq, hk, hkn, e1, e2, e3⟩ := draw_nums (W := W) (x := z) (y := row) (by have := HCW.out; have := HJ.out; have := HZE.out; omega) HRW.out HN.out HWB.out HHB.out
        have Q1 := Lib.hid e1
        have Q2 := Lib.hid e2
        clear e1 e2 e3
        have hki : (k : Int) < (N : Int) := Int.ofNat_lt.2 hkn
        have p0 := HP.out.cell 0
        have p2 := HP.out.cell 2
        unfold boxP at p0 p2
        dsimp only [List.getElem?_cons_succ, List.getElem?_cons_zero] at p0 p2
        have c5 := HV.out.cell hkn
        have z5 := HV.out.frozen k
        have HV9 : Hid (Vec (wr.setCell ⟨g, k, none⟩ (.int .i64 ((1 : Nat) : Int))) g N (fill F (row * W + col) (j + 1))) := Lib.hid (HV.out.set hkn (fun m hm hne => by
          unfold fill
          by_cases h : row * W + col ≤ m ∧ m < row * W + col + j
          · rw [if_pos h, if_pos (by omega)]
          · rw [if_neg h, if_neg (by have := HZE.out; omega)]) (by unfold fill; rw [if_pos (by have := HZE.out; omega)]))
        have hon := only_setCell wr g k (.int .i64 ((1 : Nat) : Int))
        have HP9 := Lib.hid (HP.out.other hon HPG.out.1)
        have HK9 : Hid (∀ b T cs, b ≠ g → Row w b T cs → Row (wr.setCell ⟨g, k, none⟩ (.int .i64 ((1 : Nat) : Int))) b T cs) := Lib.hid (fun b T cs hb h => (HKK.out b T cs hb h).other hon hb)
        have HB9 := Lib.hid (HB.out.trans (hon.below HPG.out.2))
        clear hon hq hk hkn
        have e1 := Q1.out
        have e2 := Q2.out
        go_upto_region 30 with fail
        clear e1 e2 p0 p2 c5 z5 hki
        change Code.wp _ _ _ _ (wr.setCell ⟨g, k, none⟩ (.int .i64 ((1 : Nat) : Int)))
        generalize wr.setCell ⟨g, k, none⟩ (.int .i64 ((1 : Nat) : Int)) = w9 at *
        go_wp2_with fail
        go_roundw
        case rel => exact ⟨j + 1, congrArg (Value.int .i64) E1.out, congrArg (Value.int .i64) (E2.out.trans E3.out), HJ.out, HV9.out, HP9.out, HK9.out, HB9.out⟩
        case measure => exact meas E1.out (by have := HJ.out; omega)
      · obtain rfl : j = n := by omega
        have hji : ¬ (j : Int) < (j : Int) := by omega
        clear hj hz hjn
        go_wp2_with fail
        obtain rfl := HZE.out
        exact hnext HV.out HP.out HKK.out HB.out
  · clear HV0
    have hq1 : ((c.toNat : Int) == 111) = false := byte_ne (k := 111) (by decide) hc
    have HNX : Hid ((if c = 111 then fill F (row * W + col) n else F) = F) := Lib.hid (if_neg hc)
    rw [HNX.out] at hnext
    clear hc
    go_wp2_with fail
    go_loopw [138, 9] (fun v u wx => ∃ j : Nat, v = .int .i64 ((j : Nat) : Int) ∧ u = .int .i64 ((col + j : Nat) : Int) ∧ j ≤ n ∧ Vec wx g N (F) ∧ Row wx pb 35 (boxP (W : Nat) (H : Nat) (some ⟨g, 0, none⟩) N N2) ∧ (∀ b T cs, b ≠ g → Row w b T cs → Row wx b T cs) ∧ Below w0.heap.size w0 wx) (fun v _ _ => n - (RowKit.intOf v).toNat)
    case atStart => exact ⟨0, rfl, rfl, Nat.zero_le _, HV.out, HP.out, fun _ _ _ _ h => h, HB.out⟩
    case round =>
      clear HV HP HB
      obtain ⟨j, rfl, rfl, hj, hv, hp, hkk, hb⟩ := hrel
      have HV := Lib.hid hv
      have HP := Lib.hid hp
      have HKK := Lib.hid hkk
      have HB := Lib.hid hb
      clear hv hp hkk hb
      obtain ⟨z, hz⟩ : ∃ z, z = col + j := ⟨_, rfl⟩
      rw [← hz]
      have HZE := Lib.hid hz
      by_cases hjn : j < n
      · have hji : (j : Int) < (n : Int) := by omega
        have HJ : Hid (j + 1 ≤ n) := Lib.hid hjn
        have hwb := HWB.out
        have hcw := HCW.out
        have E1 : Hid (wrap64 ((j : Int) + 1) = ((j + 1 : Nat) : Int)) := Lib.hid (wr_nat (by push_cast; rfl) (by omega))
        have E2 : Hid (wrap64 ((z : Int) + 1) = ((z + 1 : Nat) : Int)) := Lib.hid (wr_nat (by push_cast; rfl) (by omega))
        have E3 : Hid (((z + 1 : Nat) : Int) = ((col + (j + 1) : Nat) : Int)) := Lib.hid (by rw [HZE.out]; rfl)
        have hg := get_drop s HI.out
        rw [HC.out] at hg
        have hi9 := HI.out
        clear hj hz hjn hwb hcw
        go_wp2_with fail
        go_roundw
        case rel => exact ⟨j + 1, congrArg (Value.int .i64) E1.out, congrArg (Value.int .i64) (E2.out.trans E3.out), HJ.out, HV.out, HP.out, HKK.out, HB.out⟩
        case measure => exact meas E1.out (by have := HJ.out; omega)
      · obtain rfl : j = n := by omega
        have hji : ¬ (j : Int) < (j : Int) := by omega
        clear hj hz hjn
        go_wp2_with fail
        obtain rfl := HZE.out
        exact hnext HV.out HP.out HKK.out HB.out
end Pr
end Go.Proofs.YtgagophijmiceaaDoor

/- WALK, PIECES: pattern.ParseRuns: what stands behind the end. -/
namespace Go.Proofs.YtgagophijmiceaaDoor
set_option linter.unusedSimpArgs false
set_option linter.unusedVariables false
open Go.RowKit
namespace Pr
open Tld Mem Bl Pn Pw Rd

set_option maxHeartbeats 8000000 in
set_option maxRecDepth 1000000 in
theorem rn_end (w0 w : World) (s : ByteArray) (rb i : Nat) (hs : s.size ≤ 40000) (hi : i ≤ s.size) (hR : Row w rb 35 noPat) (hrb : w0.heap.size ≤ rb) (hb : Below w0.heap.size w0 w)
    (c1 c3 c4 c5 c7 c8 c9 c10 c11 c12 c13 c14 c15 c16 c17 c18 c19 c20 c21 c22 c23 c24 c25 c26 c27 c28 c29 c30 c31 c32 c33 c34 c35 c36 c37 c38 c39 c40 c41 c42 c43 c44 c45 c46 c47 c48 c49 c50 c51 c52 c53 c54 c55 c56 c57 c58 c59 c60 c61 c62 c63 c64 c65 c66 c67 c68 c69 c70 c71 c72 c73 c74 c75 c76 c77 c78 c79 c80 c81 c82 c83 c84 c85 c86 c87 c88 c89 c90 c91 c92 c93 c94 c95 c96 c97 c98 c99 c100 c101 c102 c103 c104 c105 c106 c107 c108 c109 c110 c111 c112 c113 c114 c115 c116 c117 c118 c119 c120 c121 c122 c123 c124 c125 c126 c127 c128 c129 c130 c131 c132 c133 c134 c135 c136 c137 c138 c139 c140 c141 c142 c143 c144 c145 c146 c147 c148 c149 c150 c151 c152 c153 c154 c155 c156 c157 c158 c159 c160 c161 c162 c163 c164 c165 c166 c167 c168 c169 c170 c171 c172 c173 c174 c175 c176 c177 c178 c179 c180 c181 c182 c183 c184 c185 c186 c187 c188 c189 c190 c191 c192 c193 c194 c195 c196 c197 c198 c199 c200 c201 c202 c203 c204 c205 c206 : Value) (Q : Exit → Act → World → Prop)
    (hnext : ∀ {u3 u4 u184 u185 u186 u187 u188 u189 u190 u191 u192 u193 u194 u195 u196 u197 u198 u199 u200 u201 u202 : Value} {w' : World}, skp s.data.toList i = s.size → w' = w → Q .normal ⟨#[.string s, c1, .pointer (some ⟨rb, 0, none⟩), u3, u4, c5, .int .i64 ((s.size : Nat) : Int), c7, c8, c9, c10, c11, c12, c13, c14, c15, c16, c17, c18, c19, c20, c21, c22, c23, c24, c25, c26, c27, c28, c29, c30, c31, c32, c33, c34, c35, c36, c37, c38, c39, c40, c41, c42, c43, c44, c45, c46, c47, c48, c49, c50, c51, c52, c53, c54, c55, c56, c57, c58, c59, c60, c61, c62, c63, c64, c65, c66, c67, c68, c69, c70, c71, c72, c73, c74, c75, c76, c77, c78, c79, c80, c81, c82, c83, c84, c85, c86, c87, c88, c89, c90, c91, c92, c93, c94, c95, c96, c97, c98, c99, c100, c101, c102, c103, c104, c105, c106, c107, c108, c109, c110, c111, c112, c113, c114, c115, c116, c117, c118, c119, c120, c121, c122, c123, c124, c125, c126, c127, c128, c129, c130, c131, c132, c133, c134, c135, c136, c137, c138, c139, c140, c141, c142, c143, c144, c145, c146, c147, c148, c149, c150, c151, c152, c153, c154, c155, c156, c157, c158, c159, c160, c161, c162, c163, c164, c165, c166, c167, c168, c169, c170, c171, c172, c173, c174, c175, c176, c177, c178, c179, c180, c181, c182, c183, u184, u185, u186, u187, u188, u189, u190, u191, u192, u193, u194, u195, u196, u197, u198, u199, u200, u201, u202, c203, c204, c205, c206], []⟩ w')
    (hret : ∀ (a' : Act) (w' : World) (v : Value), (results Tryd.f11 a'.tmps).run Tryd.prog w' = .ok v w' → a'.defers = [] → (skp s.data.toList i < s.size ∧ v = .tuple #[.agg #[.int .i64 0, .int .i64 0, .slice none 0 0], .int .i64 ((skp s.data.toList i : Nat) : Int), .iface 59 (.int .i64 2)]) → Below w0.heap.size w0 w' → Q .ret a' w')
    : Code.wp Tryd.prog ((Pc.blk 7 (Tryd.f11.body.getD .skip)).getD .skip) Q ⟨#[.string s, c1, .pointer (some ⟨rb, 0, none⟩), c3, c4, c5, .int .i64 ((i : Nat) : Int), c7, c8, c9, c10, c11, c12, c13, c14, c15, c16, c17, c18, c19, c20, c21, c22, c23, c24, c25, c26, c27, c28, c29, c30, c31, c32, c33, c34, c35, c36, c37, c38, c39, c40, c41, c42, c43, c44, c45, c46, c47, c48, c49, c50, c51, c52, c53, c54, c55, c56, c57, c58, c59, c60, c61, c62, c63, c64, c65, c66, c67, c68, c69, c70, c71, c72, c73, c74, c75, c76, c77, c78, c79, c80, c81, c82, c83, c84, c85, c86, c87, c88, c89, c90, c91, c92, c93, c94, c95, c96, c97, c98, c99, c100, c101, c102, c103, c104, c105, c106, c107, c108, c109, c110, c111, c112, c113, c114, c115, c116, c117, c118, c119, c120, c121, c122, c123, c124, c125, c126, c127, c128, c129, c130, c131, c132, c133, c134, c135, c136, c137, c138, c139, c140, c141, c142, c143, c144, c145, c146, c147, c148, c149, c150, c151, c152, c153, c154, c155, c156, c157, c158, c159, c160, c161, c162, c163, c164, c165, c166, c167, c168, c169, c170, c171, c172, c173, c174, c175, c176, c177, c178, c179, c180, c181, c182, c183, c184, c185, c186, c187, c188, c189, c190, c191, c192, c193, c194, c195, c196, c197, c198, c199, c200, c201, c202, c203, c204, c205, c206], []⟩ w := by
  conv => arg 2; whnf
  have HSZ := Lib.hid hs
  have HLT : Hid (∀ j, j < bln s i → i + j < s.size ∧ blB (s.data.toList.getD (i + j) 0) = true) := Lib.hid (fun j hj => bln_lt hj)
  have HEND : Hid (i + bln s i < s.size → blB (s.data.toList.getD (i + bln s i) 0) = false) := Lib.hid bln_end
  have HLE := Lib.hid (bln_le s i hi)
  rw [skp_bln] at hnext hret
  generalize bln s i = K at *
  have HR := Lib.hid hR
  have HRB := Lib.hid hrb
  have HB := Lib.hid hb
  clear hs hi hR hrb hb
  go_wp2_with fail
  go_loopw [6] (fun v wx => (∃ j : Nat, v = .int .i64 ((i + j : Nat) : Int) ∧ j ≤ K) ∧ w = wx) (fun v _ => s.size + 2 - (RowKit.intOf v).toNat)
  case atStart => exact ⟨⟨0, rfl, Nat.zero_le _⟩, rfl⟩
  case round =>
    obtain ⟨⟨j, rfl, hj⟩, rfl⟩ := hrel
    obtain ⟨z, hz⟩ : ∃ z, z = i + j := ⟨_, rfl⟩
    rw [← hz]
    have HZE := Lib.hid hz
    by_cases hjl : j < K
    · have h3 := HLT.out j hjl
      rw [← hz] at h3
      have hzs := h3.1
      have hbl := h3.2
      have hzi : (z : Int) < (s.size : Int) := by omega
      have hg := get_drop s hzs
      obtain ⟨x, hx⟩ : ∃ x, x = s.data.toList.getD z 0 := ⟨_, rfl⟩
      rw [← hx] at hg hbl
      have HJ : Hid (j + 1 ≤ K) := Lib.hid hjl
      have E1 : Hid (wrap64 ((z : Int) + 1) = ((i + (j + 1) : Nat) : Int)) := Lib.hid (wr_nat (by rw [hz]; push_cast; omega) (by have := HSZ.out; omega))
      have HZS := Lib.hid hzs
      clear h3 hx hz hjl hj
      by_cases hx32 : x = 32
      · have q1 : ((x.toNat : Int) == 32) = true := byte_eq (k := 32) (by decide) hx32
        have q2 : ((x.toNat : Int) != 32) = false := by rw [bne, q1]; rfl
        clear hx32
        clear hbl
        go_wp2_with fail
        go_roundw
        case rel => exact ⟨⟨j + 1, congrArg (Value.int .i64) E1.out, HJ.out⟩, trivial⟩
        case measure => exact meas E1.out (by have := HJ.out; have := HZE.out; have := HZS.out; omega)
      · have q1 : ((x.toNat : Int) == 32) = false := byte_ne (k := 32) (by decide) hx32
        have q2 : ((x.toNat : Int) != 32) = true := by rw [bne, q1]; rfl
        have hx10 : x = 10 := by
          unfold blB at hbl
          rcases of_decide_eq_true hbl with h | h
          · exact absurd h hx32
          · exact h
        have q3 : ((x.toNat : Int) == 10) = true := byte_eq (k := 10) (by decide) hx10
        have q4 : ((x.toNat : Int) != 10) = false := by rw [bne, q3]; rfl
        clear hx32 hx10
        clear hbl
        go_wp2_with fail
        go_roundw
        case rel => exact ⟨⟨j + 1, congrArg (Value.int .i64) E1.out, HJ.out⟩, trivial⟩
        case measure => exact meas E1.out (by have := HJ.out; have := HZE.out; have := HZS.out; omega)
    · obtain rfl : j = K := by omega
      clear hjl hj
      by_cases hzs : z < s.size
      · have hg := get_drop s hzs
        have hbl := HEND.out (by rw [← hz]; exact hzs)
        rw [← hz] at hbl
        obtain ⟨x, hx⟩ : ∃ x, x = s.data.toList.getD z 0 := ⟨_, rfl⟩
        rw [← hx] at hg hbl
        have hzi : (z : Int) < (s.size : Int) := by omega
        have HZS := Lib.hid hzs
        clear hx hz
        have hno : x ≠ 32 ∧ x ≠ 10 := by
          unfold blB at hbl
          have h := of_decide_eq_false hbl
          exact ⟨fun e => h (.inl e), fun e => h (.inr e)⟩
        have q1 : ((x.toNat : Int) == 32) = false := byte_ne (k := 32) (by decide) hno.1
        have q2 : ((x.toNat : Int) != 32) = true := by rw [bne, q1]; rfl
        have q3 : ((x.toNat : Int) == 10) = false := byte_ne (k := 10) (by decide) hno.2
        have q4 : ((x.toNat : Int) != 10) = true := by rw [bne, q3]; rfl
        clear hno
        clear hbl
        go_wp2_with (refine Ops.wpList_store_arr rfl 35 _ _ rfl rb rfl 35 noPat noPat rfl HR.out rfl infoPat noPat_one ?_; intro w5 hr5 ho5)
        refine hret _ _ _ (results_pat3 (t := 2) (u := 3) (v := 4) (e := .int .i64 ((z : Nat) : Int)) (f := .iface 59 (.int .i64 2)) rfl _ _ hr5 rfl rfl rfl rfl) rfl ?_ (HB.out.trans (ho5.below HRB.out))
        rw [← HZE.out]
        exact ⟨HZS.out, rfl⟩
      · have hzi : ¬ (z : Int) < (s.size : Int) := by omega
        have hze : z = s.size := by have := HLE.out; omega
        have HEQ : Hid (i + j = s.size) := Lib.hid (by rw [← hz]; exact hze)
        clear hz hzs
        go_wp2_with fail
        subst hze
        exact hnext HEQ.out rfl
end Pr
end Go.Proofs.YtgagophijmiceaaDoor

/- WALK, PIECES: pattern.ParseRuns: from the label on. -/
namespace Go.Proofs.YtgagophijmiceaaDoor
set_option linter.unusedSimpArgs false
set_option linter.unusedVariables false
open Go.RowKit
namespace Pr
open Tld Mem Bl Pn Pw Rd

theorem cnt_num {ds : List UInt8} (hall : ∀ b ∈ ds, digB b = true) (hne : ds ≠ []) (h : ¬ (numv ds < 2 ∨ 6 < ds.length)) : macc ds = ((cnt ds : Nat) : Int) := by
  have hv : numv ds = val ds := by
    unfold numv
    split
    · rfl
    · rename_i hg
      exfalso
      apply h
      left
      unfold numv
      rw [if_neg hg]
      decide
  rw [macc_val hall (by omega)]
  unfold cnt
  rw [if_neg hne]
  rw [hv] at h
  omega
/-- The code in the function's scope. -/
def Pc.scp : Code → Option Code
  | .scope c => some c
  | .seq a b => match Pc.scp a with
    | some c => some c
    | none => Pc.scp b
  | _ => none
/-- The code behind a label. -/
def Pc.behind (c : Code) (l : Nat) : Option Code := match findLabel c l with
  | some (.seq _ b) => some b
  | _ => none
set_option maxHeartbeats 16000000 in
set_option maxRecDepth 1000000 in
theorem rn_pass (w0 w : World) (s : ByteArray) (rb pb g W H N N2 i row col : Nat) (F : Nat → Nat) (hs : s.size ≤ 40000) (hi : i ≤ s.size) (hV : Vec w g N F) (hP : Row w pb 35 (boxP (W : Nat) (H : Nat) (some ⟨g, 0, none⟩) N N2)) (hR : Row w rb 35 noPat) (hrb : w0.heap.size ≤ rb) (hb : Below w0.heap.size w0 w) (hne : pb ≠ g ∧ rb ≠ g ∧ rb ≠ pb ∧ w0.heap.size ≤ g) (hN : N = W * H) (hW : W ≤ 100) (hH : H ≤ 100) (hcl : col ≤ W) (hrl : row ≤ H)
    (c1 c3 c4 c7 c10 c11 c12 c13 c14 c15 c16 c17 c18 c19 c20 c21 c22 c23 c24 c25 c26 c27 c28 c29 c30 c31 c32 c33 c34 c35 c36 c37 c38 c39 c40 c41 c42 c43 c44 c45 c46 c47 c48 c49 c50 c51 c52 c53 c54 c55 c56 c57 c58 c59 c60 c61 c62 c63 c64 c65 c66 c67 c68 c69 c70 c71 c72 c73 c74 c75 c76 c77 c78 c79 c80 c81 c82 c83 c84 c85 c86 c87 c88 c89 c90 c91 c92 c93 c94 c95 c96 c97 c98 c99 c100 c101 c102 c103 c104 c105 c106 c107 c108 c109 c110 c111 c112 c113 c114 c115 c116 c117 c118 c119 c120 c121 c122 c123 c124 c125 c126 c127 c128 c129 c130 c131 c132 c133 c134 c135 c136 c137 c138 c139 c140 c141 c142 c143 c144 c145 c146 c147 c148 c149 c150 c151 c152 c153 c154 c155 c156 c157 c158 c159 c160 c161 c162 c163 c164 c165 c166 c167 c168 c169 c170 c171 c172 c173 c174 c175 c176 c177 c178 c179 c180 c181 c182 c183 c184 c185 c186 c187 c188 c189 c190 c191 c192 c193 c194 c195 c196 c197 c198 c199 c200 c201 c202 c203 c204 c205 c206 : Value) (Q : Exit → Act → World → Prop)
    (hgoto : ∀ {u3 u4 u10 u11 u38 u39 u40 u41 u42 u43 u44 u45 u46 u47 u48 u49 u50 u51 u52 u53 u54 u55 u56 u57 u58 u59 u60 u61 u62 u63 u64 u65 u66 u67 u68 u69 u70 u71 u72 u73 u74 u75 u76 u77 u78 u79 u80 u81 u82 u83 u84 u85 u86 u87 u88 u89 u90 u91 u92 u93 u94 u95 u96 u97 u98 u99 u100 u101 u102 u103 u104 u105 u106 u107 u108 u109 u110 u111 u112 u113 u114 u115 u116 u117 u118 u119 u120 u121 u122 u123 u124 u125 u126 u127 u128 u129 u130 u131 u132 u133 u134 u135 u136 u137 u138 u139 u140 u141 u142 u143 u144 u145 u146 u147 u148 u149 u150 u151 u152 u153 u154 u155 u156 u157 u158 u159 u160 u161 u162 u163 u164 u165 u166 u167 u168 u169 u170 u171 u172 u173 u174 u175 u176 u177 u178 u179 u180 u181 u182 u183 u184 u185 u186 u187 u188 u189 u190 u191 u192 u193 u194 u195 u196 u197 u198 u199 u200 u201 u202 u203 u204 u205 u206 : Value} {w' : World} (i' row' col' : Nat) (F' : Nat → Nat), step s.data.toList W H i row col F = .go i' row' col' F' → Vec w' g N F' → Row w' pb 35 (boxP (W : Nat) (H : Nat) (some ⟨g, 0, none⟩) N N2) → Row w' rb 35 noPat → Below w0.heap.size w0 w' → Q (.goto 0) ⟨#[.string s, c1, .pointer (some ⟨rb, 0, none⟩), u3, u4, .pointer (some ⟨pb, 0, none⟩), .int .i64 ((i' : Nat) : Int), c7, .int .i64 ((row' : Nat) : Int), .int .i64 ((col' : Nat) : Int), u10, u11, c12, c13, c14, c15, c16, c17, c18, c19, c20, c21, c22, c23, c24, c25, c26, c27, c28, c29, c30, c31, c32, c33, c34, c35, c36, c37, u38, u39, u40, u41, u42, u43, u44, u45, u46, u47, u48, u49, u50, u51, u52, u53, u54, u55, u56, u57, u58, u59, u60, u61, u62, u63, u64, u65, u66, u67, u68, u69, u70, u71, u72, u73, u74, u75, u76, u77, u78, u79, u80, u81, u82, u83, u84, u85, u86, u87, u88, u89, u90, u91, u92, u93, u94, u95, u96, u97, u98, u99, u100, u101, u102, u103, u104, u105, u106, u107, u108, u109, u110, u111, u112, u113, u114, u115, u116, u117, u118, u119, u120, u121, u122, u123, u124, u125, u126, u127, u128, u129, u130, u131, u132, u133, u134, u135, u136, u137, u138, u139, u140, u141, u142, u143, u144, u145, u146, u147, u148, u149, u150, u151, u152, u153, u154, u155, u156, u157, u158, u159, u160, u161, u162, u163, u164, u165, u166, u167, u168, u169, u170, u171, u172, u173, u174, u175, u176, u177, u178, u179, u180, u181, u182, u183, u184, u185, u186, u187, u188, u189, u190, u191, u192, u193, u194, u195, u196, u197, u198, u199, u200, u201, u202, u203, u204, u205, u206], []⟩ w')
    (hret : ∀ (a' : Act) (w' : World) (v : Value), (results Tryd.f11 a'.tmps).run Tryd.prog w' = .ok v w' → a'.defers = [] → ((∃ p e, step s.data.toList W H i row col F = .bad p e ∧ v = .tuple #[.agg #[.int .i64 0, .int .i64 0, .slice none 0 0], .int .i64 ((p : Nat) : Int), .iface 59 (.int .i64 e)]) ∨ (∃ F', step s.data.toList W H i row col F = .ok F' ∧ v = .tuple #[.agg (boxP (W : Nat) (H : Nat) (some ⟨g, 0, none⟩) N N2).toArray, .int .i64 0, .nilIface] ∧ Vec w' g N F')) → Below w0.heap.size w0 w' → Q .ret a' w')
    : Code.wp Tryd.prog (((Pc.behind ((Pc.scp (Tryd.f11.body.getD .skip)).getD .skip) 0)).getD .skip) Q ⟨#[.string s, c1, .pointer (some ⟨rb, 0, none⟩), c3, c4, .pointer (some ⟨pb, 0, none⟩), .int .i64 ((i : Nat) : Int), c7, .int .i64 ((row : Nat) : Int), .int .i64 ((col : Nat) : Int), c10, c11, c12, c13, c14, c15, c16, c17, c18, c19, c20, c21, c22, c23, c24, c25, c26, c27, c28, c29, c30, c31, c32, c33, c34, c35, c36, c37, c38, c39, c40, c41, c42, c43, c44, c45, c46, c47, c48, c49, c50, c51, c52, c53, c54, c55, c56, c57, c58, c59, c60, c61, c62, c63, c64, c65, c66, c67, c68, c69, c70, c71, c72, c73, c74, c75, c76, c77, c78, c79, c80, c81, c82, c83, c84, c85, c86, c87, c88, c89, c90, c91, c92, c93, c94, c95, c96, c97, c98, c99, c100, c101, c102, c103, c104, c105, c106, c107, c108, c109, c110, c111, c112, c113, c114, c115, c116, c117, c118, c119, c120, c121, c122, c123, c124, c125, c126, c127, c128, c129, c130, c131, c132, c133, c134, c135, c136, c137, c138, c139, c140, c141, c142, c143, c144, c145, c146, c147, c148, c149, c150, c151, c152, c153, c154, c155, c156, c157, c158, c159, c160, c161, c162, c163, c164, c165, c166, c167, c168, c169, c170, c171, c172, c173, c174, c175, c176, c177, c178, c179, c180, c181, c182, c183, c184, c185, c186, c187, c188, c189, c190, c191, c192, c193, c194, c195, c196, c197, c198, c199, c200, c201, c202, c203, c204, c205, c206], []⟩ w := by
  conv => arg 2; whnf
  have HSZ := Lib.hid hs
  have HI := Lib.hid hi
  have HV := Lib.hid hV
  have HP := Lib.hid hP
  have HR := Lib.hid hR
  have HRB := Lib.hid hrb
  have HB := Lib.hid hb
  have HNE := Lib.hid hne
  have HN := Lib.hid hN
  have HWB := Lib.hid hW
  have HHB := Lib.hid hH
  have HCL := Lib.hid hcl
  have HRL := Lib.hid hrl
  clear hs hi hV hP hR hrb hb hne hN hW hH hcl hrl
  go_upto_block 0 with fail
  apply rn_skip (w := w) (s := s) (i := i)
  case hs => exact HSZ.out
  case hi => exact HI.out
  case hnext =>
  intro u38 u39 u40 u41 u42 u43 u44 u45 u46 u47 u48 u49 u50 u51 u52 u53 u54 u55 w1 hw1
  subst hw1
  obtain ⟨j, hj⟩ : ∃ j, j = i + bln s i := ⟨_, rfl⟩
  rw [← hj]
  have HJE : Hid (j ≤ s.size) := Lib.hid (by rw [hj]; exact bln_le s i HI.out)
  obtain ⟨ds, hds⟩ : ∃ ds, ds = dgs s.data.toList j := ⟨_, rfl⟩
  have HDS := Lib.hid hds
  have HS2 : Hid (step s.data.toList W H i row col F = stepJ s.data.toList W H j row col F ds) := Lib.hid (by rw [hds, hj]; rfl)
  clear hj hds
  go_upto_block 2 with fail
  apply rn_digits (s := s) (i := j) (ds := ds)
  case hs => exact HSZ.out
  case hi => exact HJE.out
  case hds => exact HDS.out
  case hnext =>
  intro u57 u58 u59 u60 u61 u62 u63 u64 u65 u66 u67 u68 u69 u70 u71 u72 u73 u74 u75 u76 u77 u78 u79 u80 u81 u82 u83 w1 hw1
  subst hw1
  have HALL : Hid (∀ b ∈ ds, digB b = true) := Lib.hid (by rw [HDS.out]; exact digs_all s j)
  have HLT : Hid (∀ q, q < ds.length → j + q < s.size ∧ ds.getD q 0 = s.data.toList.getD (j + q) 0 ∧ digB (s.data.toList.getD (j + q) 0) = true) := Lib.hid (by rw [HDS.out]; exact fun q hq => digs_lt hq)
  have HLE : Hid (j + ds.length ≤ s.size) := Lib.hid (by rw [HDS.out]; exact digs_le s j HJE.out)
  obtain ⟨z, hz⟩ : ∃ z, z = j + ds.length := ⟨_, rfl⟩
  rw [← hz]
  have HZE := Lib.hid hz
  have HZB : Hid (z ≤ 40000) := Lib.hid (by rw [hz]; exact Nat.le_trans HLE.out HSZ.out)
  obtain ⟨m, hm⟩ : ∃ m, m = macc ds := ⟨_, rfl⟩
  rw [← hm]
  have HM := Lib.hid hm
  have hmb := macc_b HALL.out ds.length
  rw [List.take_length, ← hm] at hmb
  have HMB := Lib.hid hmb
  obtain ⟨bq, hbq⟩ : ∃ bq, bq = decide (ds ≠ [] ∧ (numv ds < 2 ∨ 6 < ds.length)) := ⟨_, rfl⟩
  have HBQ := Lib.hid hbq
  clear hm hbq hmb
  go_upto_region 15 with fail
  go_cut [102] from 84 to 101 (fun v wx => v = .bool bq ∧ w1 = wx)
  case first =>
    have hjb : j ≤ 40000 := Nat.le_trans HJE.out HSZ.out
    by_cases hds0 : ds = []
    · have hzi : z = j := by rw [hz, hds0]; rfl
      have HQ : Hid (bq = false) := Lib.hid (by rw [HBQ.out]; exact decide_eq_false (fun h => h.1 hds0))
      have hlt : ¬ (j : Int) < (z : Int) := by omega
      clear hds0 hz hzi
      go_wp2_with fail
      go_meet
      case rel => exact ⟨by rw [HQ.out], rfl⟩
    · have hlen : 0 < ds.length := List.length_pos_iff.2 hds0
      have h0 := HLT.out 0 hlen
      rw [Nat.add_zero] at h0
      have hlt : (j : Int) < (z : Int) := by omega
      have hi0 := h0.1
      have hg0 := get_drop s hi0
      obtain ⟨b0, hb0⟩ : ∃ b0, b0 = s.data.toList.getD j 0 := ⟨_, rfl⟩
      rw [← hb0] at hg0
      have HD : Hid (ds.head? = some b0) := Lib.hid (by
        rw [hb0, ← h0.2.1]
        rcases ds with _ | ⟨c, r⟩
        · exact absurd rfl hds0
        · rfl)
      have HD0 := Lib.hid hds0
      clear h0 hb0 hds0
      by_cases h48 : b0 = 48
      · have hq : ((b0.toNat : Int) == 48) = true := byte_eq (k := 48) (by decide) h48
        have HQ : Hid (bq = true) := Lib.hid (by
          rw [HBQ.out]
          refine decide_eq_true ⟨HD0.out, .inl ?_⟩
          by_cases hl1 : 1 < ds.length
          · rw [numv_zero HD.out h48 hl1]; decide
          · rw [numv_val HD.out (.inr (by omega)), ← macc_val HALL.out (by omega)]
            have hd := HD.out
            rcases ds with _ | ⟨c, r⟩
            · cases hd
            · have hr : r = [] := List.eq_nil_of_length_eq_zero (by have h9 := hl1; rw [List.length_cons] at h9; omega)
              subst hr
              have hc : c = b0 := Option.some.inj hd
              rw [hc, h48]
              decide)
        clear h48 hz hlen
        go_wp2_with fail
        go_meet
        case rel => exact ⟨by rw [HQ.out], rfl⟩
      · have hq : ((b0.toNat : Int) == 48) = false := byte_ne (k := 48) (by decide) h48
        by_cases hl6 : 6 < ds.length
        · have HQ : Hid (bq = true) := Lib.hid (by rw [HBQ.out]; exact decide_eq_true ⟨HD0.out, .inr hl6⟩)
          have hgt6 : (j : Int) + 6 < (z : Int) := by omega
          clear h48 hl6 hz hlen
          go_wp2_with fail
          go_meet
          case rel => exact ⟨by rw [HQ.out], rfl⟩
        · have HV2 : Hid (numv ds = m) := Lib.hid (by rw [numv_val HD.out (.inl h48), HM.out]; exact (macc_val HALL.out (by omega)).symm)
          have hgt6 : ¬ (j : Int) + 6 < (z : Int) := by omega
          by_cases hm2 : m < 2
          · have HQ : Hid (bq = true) := Lib.hid (by rw [HBQ.out]; exact decide_eq_true ⟨HD0.out, .inl (by rw [HV2.out]; exact hm2)⟩)
            clear h48 hl6 hz hlen
            go_wp2_with fail
            go_meet
            case rel => exact ⟨by rw [HQ.out], rfl⟩
          · have HQ : Hid (bq = false) := Lib.hid (by rw [HBQ.out]; exact decide_eq_false (fun h => by rcases h.2 with h2 | h2; (rw [HV2.out] at h2; omega); omega))
            clear h48 hl6 hz hlen
            go_wp2_with fail
            go_meet
            case rel => exact ⟨by rw [HQ.out], rfl⟩
  case rest =>
  obtain ⟨rfl, rfl⟩ := hcut
  by_cases hbt : ds ≠ [] ∧ (numv ds < 2 ∨ 6 < ds.length)
  · have hbv : bq = true := by rw [HBQ.out]; exact decide_eq_true hbt
    have HST : Hid (step s.data.toList W H i row col F = .bad j 2) := Lib.hid (by rw [HS2.out]; unfold stepJ; rw [if_pos hbt])
    clear hbt hz
    subst hbv
    go_wp2_with (refine Ops.wpList_store_arr rfl 35 _ _ rfl rb rfl 35 noPat noPat rfl HR.out rfl infoPat noPat_one ?_; intro w5 hr5 ho5)
    refine hret _ _ _ (results_pat3 (t := 2) (u := 3) (v := 4) (e := .int .i64 ((j : Nat) : Int)) (f := .iface 59 (.int .i64 2)) rfl _ _ hr5 rfl rfl rfl rfl) rfl ?_ (HB.out.trans (ho5.below HRB.out))
    exact .inl ⟨_, _, HST.out, rfl⟩
  · have hbv : bq = false := by rw [HBQ.out]; exact decide_eq_false hbt
    have HNB := Lib.hid hbt
    clear HBQ
    subst hbv
    obtain ⟨n, hn⟩ : ∃ n, n = cnt ds := ⟨_, rfl⟩
    have HCN := Lib.hid hn
    clear hn hbt hz
    go_upto_if 108 with fail
    generalize hqz : ((z : Int) == (j : Int)) = qz
    go_cut [11] from 109 to 109 (fun v wx => v = .int .i64 ((n : Nat) : Int) ∧ w1 = wx)
    case first =>
      have hz := HZE.out
      by_cases hds0 : ds = []
      · have hzj : z = j := by rw [hz, hds0]; rfl
        have HQ : Hid (n = 1) := Lib.hid (by rw [HCN.out, cnt, if_pos hds0])
        have hqt : qz = true := by rw [← hqz, hzj]; exact beq_self_eq_true _
        clear hds0 hz hzj hqz
        subst hqt
        go_wp2_with fail
        go_meet
        case rel => exact ⟨by rw [HQ.out]; rfl, rfl⟩
      · have HQ : Hid (m = (n : Int)) := Lib.hid (by rw [HM.out, HCN.out]; exact cnt_num HALL.out hds0 (fun h => HNB.out ⟨hds0, h⟩))
        have hlen := List.length_pos_iff.2 hds0
        have hzj : ¬ (z : Int) = (j : Int) := by omega
        have hqt : qz = false := by rw [← hqz, beq_eq_false_iff_ne]; exact hzj
        clear hds0 hz hlen hzj hqz
        subst hqt
        go_wp2_with fail
        go_meet
        case rel => exact ⟨by rw [HQ.out], rfl⟩
    case rest =>
    obtain ⟨rfl, rfl⟩ := hcut
    clear hqz
    have HNB9 : Hid (n ≤ 10000000) := Lib.hid (by
      by_cases hds0 : ds = []
      · rw [HCN.out, cnt, if_pos hds0]; decide
      · have h := cnt_num HALL.out hds0 (fun h => HNB.out ⟨hds0, h⟩)
        rw [← HCN.out, ← HM.out] at h
        have := HMB.out
        omega)
    have hnb9 := HNB9.out
    by_cases hzs : z < s.size
    · have hg := get_drop s hzs
      have hzi : ¬ (z : Int) = (s.size : Int) := by omega
      have hzb : ((z : Int) == (s.size : Int)) = false := by rw [beq_eq_false_iff_ne]; exact hzi
      obtain ⟨x, hx⟩ : ∃ x, x = s.data.toList.getD z 0 := ⟨_, rfl⟩
      rw [← hx] at hg
      have HX := Lib.hid hx
      have HZS := Lib.hid hzs
      have HST : Hid (step s.data.toList W H i row col F = stepT s.data.toList W H j row col F ds x) := Lib.hid (by
        rw [HS2.out]
        unfold stepJ
        rw [if_neg HNB.out, if_neg (by rw [← Lib.size_eq, ← HZE.out]; omega), ← HZE.out, ← hx])
      obtain ⟨z1, hz1⟩ : ∃ z1, z1 = z + 1 := ⟨_, rfl⟩
      have HZ1 := Lib.hid hz1
      have E1 : Hid (wrap64 ((z : Int) + 1) = (z1 : Int)) := Lib.hid (wr_nat (by rw [hz1]; push_cast; rfl) (by have := HZB.out; omega))
      clear hx hz1
      by_cases h98 : x = 98
      · have HST2 : Hid (step s.data.toList W H i row col F = if H ≤ row ∨ W < col + n then .bad j 1 else .go (z + 1) row (col + n) (if x = 111 then fill F (row * W + col) n else F)) := Lib.hid (by
          rw [HST.out, stepT, if_pos (.inl h98), ← HCN.out, ← HZE.out])
        have q98 : ((x.toNat : Int) == 98) = true := byte_eq (k := 98) (by decide) h98
        have p0 := HP.out.cell 0
        have p1 := HP.out.cell 1
        unfold boxP at p0 p1
        dsimp only [List.getElem?_cons_succ, List.getElem?_cons_zero] at p0 p1
        clear h98
        by_cases hrow : H ≤ row
        · have HST3 : Hid (step s.data.toList W H i row col F = .bad j 1) := Lib.hid (by rw [HST2.out, if_pos (.inl hrow)])
          have hge : (H : Int) ≤ (row : Int) := by omega
          clear hrow
          go_wp2_with (refine Ops.wpList_store_arr rfl 35 _ _ rfl rb rfl 35 noPat noPat rfl HR.out rfl infoPat noPat_one ?_; intro w5 hr5 ho5)
          refine hret _ _ _ (results_pat3 (t := 2) (u := 3) (v := 4) (e := .int .i64 ((j : Nat) : Int)) (f := .iface 59 (.int .i64 1)) rfl _ _ hr5 rfl rfl rfl rfl) rfl ?_ (HB.out.trans (ho5.below HRB.out))
          exact .inl ⟨_, _, HST3.out, rfl⟩
        · have hge : ¬ (H : Int) ≤ (row : Int) := by omega
          have hcl9 := HCL.out
          have hwb9 := HWB.out
          have e9 : wrap64 ((W : Int) - (col : Int)) = (W : Int) - (col : Int) := wr_in (by omega) (by omega)
          have e9' := wr_same e9
          by_cases hwn : W < col + n
          · have HST3 : Hid (step s.data.toList W H i row col F = .bad j 1) := Lib.hid (by rw [HST2.out, if_pos (.inr hwn)])
            have hlt : (W : Int) - (col : Int) < (n : Int) := by clear e9 e9'; omega
            clear hrow hwn
            go_wp2_with (refine Ops.wpList_store_arr rfl 35 _ _ rfl rb rfl 35 noPat noPat rfl HR.out rfl infoPat noPat_one ?_; intro w5 hr5 ho5)
            refine hret _ _ _ (results_pat3 (t := 2) (u := 3) (v := 4) (e := .int .i64 ((j : Nat) : Int)) (f := .iface 59 (.int .i64 1)) rfl _ _ hr5 rfl rfl rfl rfl) rfl ?_ (HB.out.trans (ho5.below HRB.out))
            exact .inl ⟨_, _, HST3.out, rfl⟩
          · have HST3 : Hid (step s.data.toList W H i row col F = .go (z + 1) row (col + n) (if x = 111 then fill F (row * W + col) n else F)) := Lib.hid (by rw [HST2.out, if_neg (fun h => by rcases h with h | h; (exact hrow h); (exact hwn h))])
            have hlt : ¬ (W : Int) - (col : Int) < (n : Int) := by clear e9 e9'; omega
            have HRW : Hid (row < H) := Lib.hid (by clear e9 e9'; omega)
            have HCW : Hid (col + n ≤ W) := Lib.hid (by clear e9 e9'; omega)
            clear hrow hwn
            go_upto_block 5 with fail
            clear e9 e9' hcl9 hwb9 p0 p1
            apply rn_fill (w0 := w0) (s := s) (pb := pb) (g := g) (W := W) (H := H) (N := N) (N2 := N2) (i := z) (row := row) (col := col) (n := n) (c := x) (F := F)
            case hi => exact HZS.out
            case hc0 => exact HX.out.symm
            case hN => exact HN.out
            case hW => exact HWB.out
            case hH => exact HHB.out
            case hr => exact HRW.out
            case hcw => exact HCW.out
            case hV => exact HV.out
            case hP => exact HP.out
            case hpg => exact ⟨HNE.out.1, HNE.out.2.2.2⟩
            case hb => exact HB.out
            case hnext =>
              intro u138 u139 u140 u141 u142 u143 u144 u145 u146 u147 u148 u149 u150 u151 u152 u153 u154 u155 w2 hv hp hk hb
              obtain ⟨c1, hc1⟩ : ∃ c1, c1 = col + n := ⟨_, rfl⟩
              rw [← hc1]
              have HST4 : Hid (step s.data.toList W H i row col F = .go z1 row c1 (if x = 111 then fill F (row * W + col) n else F)) := Lib.hid (by rw [HST3.out, HZ1.out, hc1])
              have HVn := Lib.hid hv
              have HPn := Lib.hid hp
              have HRn := Lib.hid (hk rb _ _ HNE.out.2.1 HR.out)
              have HBn := Lib.hid hb
              clear hv hp hk hb hc1
              have e1 := E1.out
              go_wp2_with fail
              go_step3
              exact hgoto z1 row c1 _ HST4.out HVn.out HPn.out HRn.out HBn.out
      · by_cases h111 : x = 111
        · have HST2 : Hid (step s.data.toList W H i row col F = if H ≤ row ∨ W < col + n then .bad j 1 else .go (z + 1) row (col + n) (if x = 111 then fill F (row * W + col) n else F)) := Lib.hid (by
            rw [HST.out, stepT, if_pos (.inr h111), ← HCN.out, ← HZE.out])
          have q98 : ((x.toNat : Int) == 98) = false := byte_ne (k := 98) (by decide) h98
          have q111 : ((x.toNat : Int) == 111) = true := byte_eq (k := 111) (by decide) h111
          have p0 := HP.out.cell 0
          have p1 := HP.out.cell 1
          unfold boxP at p0 p1
          dsimp only [List.getElem?_cons_succ, List.getElem?_cons_zero] at p0 p1
          clear h98 h111
          by_cases hrow : H ≤ row
          · have HST3 : Hid (step s.data.toList W H i row col F = .bad j 1) := Lib.hid (by rw [HST2.out, if_pos (.inl hrow)])
            have hge : (H : Int) ≤ (row : Int) := by omega
            clear hrow
            go_wp2_with (refine Ops.wpList_store_arr rfl 35 _ _ rfl rb rfl 35 noPat noPat rfl HR.out rfl infoPat noPat_one ?_; intro w5 hr5 ho5)
            refine hret _ _ _ (results_pat3 (t := 2) (u := 3) (v := 4) (e := .int .i64 ((j : Nat) : Int)) (f := .iface 59 (.int .i64 1)) rfl _ _ hr5 rfl rfl rfl rfl) rfl ?_ (HB.out.trans (ho5.below HRB.out))
            exact .inl ⟨_, _, HST3.out, rfl⟩
          · have hge : ¬ (H : Int) ≤ (row : Int) := by omega
            have hcl9 := HCL.out
            have hwb9 := HWB.out
            have e9 : wrap64 ((W : Int) - (col : Int)) = (W : Int) - (col : Int) := wr_in (by omega) (by omega)
            have e9' := wr_same e9
            by_cases hwn : W < col + n
            · have HST3 : Hid (step s.data.toList W H i row col F = .bad j 1) := Lib.hid (by rw [HST2.out, if_pos (.inr hwn)])
              have hlt : (W : Int) - (col : Int) < (n : Int) := by clear e9 e9'; omega
              clear hrow hwn
              go_wp2_with (refine Ops.wpList_store_arr rfl 35 _ _ rfl rb rfl 35 noPat noPat rfl HR.out rfl infoPat noPat_one ?_; intro w5 hr5 ho5)
              refine hret _ _ _ (results_pat3 (t := 2) (u := 3) (v := 4) (e := .int .i64 ((j : Nat) : Int)) (f := .iface 59 (.int .i64 1)) rfl _ _ hr5 rfl rfl rfl rfl) rfl ?_ (HB.out.trans (ho5.below HRB.out))
              exact .inl ⟨_, _, HST3.out, rfl⟩
            · have HST3 : Hid (step s.data.toList W H i row col F = .go (z + 1) row (col + n) (if x = 111 then fill F (row * W + col) n else F)) := Lib.hid (by rw [HST2.out, if_neg (fun h => by rcases h with h | h; (exact hrow h); (exact hwn h))])
              have hlt : ¬ (W : Int) - (col : Int) < (n : Int) := by clear e9 e9'; omega
              have HRW : Hid (row < H) := Lib.hid (by clear e9 e9'; omega)
              have HCW : Hid (col + n ≤ W) := Lib.hid (by clear e9 e9'; omega)
              clear hrow hwn
              go_upto_block 5 with fail
              clear e9 e9' hcl9 hwb9 p0 p1
              apply rn_fill (w0 := w0) (s := s) (pb := pb) (g := g) (W := W) (H := H) (N := N) (N2 := N2) (i := z) (row := row) (col := col) (n := n) (c := x) (F := F)
              case hi => exact HZS.out
              case hc0 => exact HX.out.symm
              case hN => exact HN.out
              case hW => exact HWB.out
              case hH => exact HHB.out
              case hr => exact HRW.out
              case hcw => exact HCW.out
              case hV => exact HV.out
              case hP => exact HP.out
              case hpg => exact ⟨HNE.out.1, HNE.out.2.2.2⟩
              case hb => exact HB.out
              case hnext =>
                intro u138 u139 u140 u141 u142 u143 u144 u145 u146 u147 u148 u149 u150 u151 u152 u153 u154 u155 w2 hv hp hk hb
                obtain ⟨c1, hc1⟩ : ∃ c1, c1 = col + n := ⟨_, rfl⟩
                rw [← hc1]
                have HST4 : Hid (step s.data.toList W H i row col F = .go z1 row c1 (if x = 111 then fill F (row * W + col) n else F)) := Lib.hid (by rw [HST3.out, HZ1.out, hc1])
                have HVn := Lib.hid hv
                have HPn := Lib.hid hp
                have HRn := Lib.hid (hk rb _ _ HNE.out.2.1 HR.out)
                have HBn := Lib.hid hb
                clear hv hp hk hb hc1
                have e1 := E1.out
                go_wp2_with fail
                go_step3
                exact hgoto z1 row c1 _ HST4.out HVn.out HPn.out HRn.out HBn.out
        · have HSTa : Hid (step s.data.toList W H i row col F = if x = 36 then (if H ≤ row + n then .bad j 1 else .go (z + 1) (row + n) 0 F) else if x = 33 then (if ds ≠ [] then .bad z 2 else if skp s.data.toList (z + 1) < s.data.toList.length then .bad (skp s.data.toList (z + 1)) 2 else .ok F) else .bad z 2) := Lib.hid (by
            rw [HST.out, stepT, if_neg (fun h => by rcases h with h | h; (exact h98 h); (exact h111 h)), ← HCN.out, ← HZE.out])
          by_cases h36 : x = 36
          · have HST2 : Hid (step s.data.toList W H i row col F = if H ≤ row + n then .bad j 1 else .go (z + 1) (row + n) 0 F) := Lib.hid (by rw [HSTa.out, if_pos h36])
            have q98 : ((x.toNat : Int) == 98) = false := byte_ne (k := 98) (by decide) h98
            have q111 : ((x.toNat : Int) == 111) = false := byte_ne (k := 111) (by decide) h111
            have q36 : ((x.toNat : Int) == 36) = true := byte_eq (k := 36) (by decide) h36
            have p0 := HP.out.cell 0
            have p1 := HP.out.cell 1
            unfold boxP at p0 p1
            dsimp only [List.getElem?_cons_succ, List.getElem?_cons_zero] at p0 p1
            clear h98 h111 h36
            have hb1 := HHB.out
            have hb2 := HRL.out
            have e9 : wrap64 ((H : Int) - (row : Int)) = (H : Int) - (row : Int) := wr_in (by omega) (by omega)
            have e9' := wr_same e9
            by_cases hrn : H ≤ row + n
            · have HST3 : Hid (step s.data.toList W H i row col F = .bad j 1) := Lib.hid (by rw [HST2.out, if_pos hrn])
              have hge : (H : Int) - (row : Int) ≤ (n : Int) := by clear e9 e9'; omega
              clear hrn hb1 hb2
              go_wp2_with (refine Ops.wpList_store_arr rfl 35 _ _ rfl rb rfl 35 noPat noPat rfl HR.out rfl infoPat noPat_one ?_; intro w5 hr5 ho5)
              refine hret _ _ _ (results_pat3 (t := 2) (u := 3) (v := 4) (e := .int .i64 ((j : Nat) : Int)) (f := .iface 59 (.int .i64 1)) rfl _ _ hr5 rfl rfl rfl rfl) rfl ?_ (HB.out.trans (ho5.below HRB.out))
              exact .inl ⟨_, _, HST3.out, rfl⟩
            · have hge : ¬ (H : Int) - (row : Int) ≤ (n : Int) := by clear e9 e9'; omega
              obtain ⟨r1, hr1⟩ : ∃ r1, r1 = row + n := ⟨_, rfl⟩
              have HST4 : Hid (step s.data.toList W H i row col F = .go z1 r1 0 F) := Lib.hid (by rw [HST2.out, if_neg hrn, HZ1.out, hr1])
              have e8 : wrap64 ((row : Int) + (n : Int)) = (r1 : Int) := wr_nat (by rw [hr1]; push_cast; rfl) (by clear e9 e9'; omega)
              have e8' := wr_same e8
              have e1 := E1.out
              clear hrn hb1 hb2 hr1
              go_wp2_with fail
              go_step3
              exact hgoto z1 r1 0 _ HST4.out HV.out HP.out HR.out HB.out
          · by_cases h33 : x = 33
            · have HST2 : Hid (step s.data.toList W H i row col F = if ds ≠ [] then .bad z 2 else if skp s.data.toList (z + 1) < s.data.toList.length then .bad (skp s.data.toList (z + 1)) 2 else .ok F) := Lib.hid (by rw [HSTa.out, if_neg h36, if_pos h33])
              have q98 : ((x.toNat : Int) == 98) = false := byte_ne (k := 98) (by decide) h98
              have q111 : ((x.toNat : Int) == 111) = false := byte_ne (k := 111) (by decide) h111
              have q36 : ((x.toNat : Int) == 36) = false := byte_ne (k := 36) (by decide) h36
              have q33 : ((x.toNat : Int) == 33) = true := byte_eq (k := 33) (by decide) h33
              clear h98 h111 h36 h33
              by_cases hds0 : ds = []
              · have hjz : ¬ (j : Int) < (z : Int) := by have := HZE.out; rw [hds0] at this; simp at this; omega
                have HST3 : Hid (step s.data.toList W H i row col F = if skp s.data.toList z1 < s.data.toList.length then .bad (skp s.data.toList z1) 2 else .ok F) := Lib.hid (by rw [HST2.out, if_neg (fun h => h hds0), HZ1.out])
                have HZ1S : Hid (z1 ≤ s.size) := Lib.hid (by rw [HZ1.out]; exact HZS.out)
                clear hds0
                go_upto_block 7 with fail
                rw [E1.out]
                apply rn_end (w0 := w0) (s := s) (rb := rb) (i := z1)
                case hs => exact HSZ.out
                case hi => exact HZ1S.out
                case hR => exact HR.out
                case hrb => exact HRB.out
                case hb => exact HB.out
                case hret =>
                  rintro a' w' v hr hd ⟨hlt, rfl⟩ hbl
                  exact hret a' w' _ hr hd (.inl ⟨_, _, by rw [HST3.out, if_pos (by rw [← Lib.size_eq]; exact hlt)], rfl⟩) hbl
                case hnext =>
                  intro u3 u4 u184 u185 u186 u187 u188 u189 u190 u191 u192 u193 u194 u195 u196 u197 u198 u199 u200 u201 u202 w2 heq hw2
                  subst hw2
                  have HOK : Hid (step s.data.toList W H i row col F = .ok F) := Lib.hid (by rw [HST3.out, if_neg (by rw [← Lib.size_eq, heq]; exact Nat.lt_irrefl _)])
                  clear heq
                  have l6 := row_range HP.out
                  go_wp2_with (first | (refine wpList_load_mid rfl 35 _ rfl pb 0 rfl _ _ l6 Tryd.underlying35 rfl infoPat ?_) | (refine Ops.wpList_store_arr rfl 35 _ _ rfl rb rfl 35 noPat (boxP (W : Nat) (H : Nat) (some ⟨g, 0, none⟩) N N2) rfl HR.out rfl infoPat (boxP_one _ _ _ _ _) ?_; intro w5 hr5 ho5))
                  exact hret _ _ _ (results_pat3 (t := 2) (u := 3) (v := 4) (e := .int .i64 0) (f := .nilIface) rfl _ _ hr5 rfl rfl rfl rfl) rfl (.inr ⟨F, HOK.out, rfl, HV.out.other ho5 (Ne.symm HNE.out.2.1)⟩) (HB.out.trans (ho5.below HRB.out))
              · have hjz : (j : Int) < (z : Int) := by have := HZE.out; have := List.length_pos_iff.2 hds0; omega
                have HST3 : Hid (step s.data.toList W H i row col F = .bad z 2) := Lib.hid (by rw [HST2.out, if_pos hds0])
                clear hds0
                go_wp2_with (refine Ops.wpList_store_arr rfl 35 _ _ rfl rb rfl 35 noPat noPat rfl HR.out rfl infoPat noPat_one ?_; intro w5 hr5 ho5)
                refine hret _ _ _ (results_pat3 (t := 2) (u := 3) (v := 4) (e := .int .i64 ((z : Nat) : Int)) (f := .iface 59 (.int .i64 2)) rfl _ _ hr5 rfl rfl rfl rfl) rfl ?_ (HB.out.trans (ho5.below HRB.out))
                exact .inl ⟨_, _, HST3.out, rfl⟩
            · have HST3 : Hid (step s.data.toList W H i row col F = .bad z 2) := Lib.hid (by rw [HSTa.out, if_neg h36, if_neg h33])
              have q33 : ((x.toNat : Int) == 33) = false := byte_ne (k := 33) (by decide) h33
              have q36 : ((x.toNat : Int) == 36) = false := byte_ne (k := 36) (by decide) h36
              have q98 : ((x.toNat : Int) == 98) = false := byte_ne (k := 98) (by decide) h98
              have q111 : ((x.toNat : Int) == 111) = false := byte_ne (k := 111) (by decide) h111
              clear h98 h111 h36 h33
              go_wp2_with (refine Ops.wpList_store_arr rfl 35 _ _ rfl rb rfl 35 noPat noPat rfl HR.out rfl infoPat noPat_one ?_; intro w5 hr5 ho5)
              refine hret _ _ _ (results_pat3 (t := 2) (u := 3) (v := 4) (e := .int .i64 ((z : Nat) : Int)) (f := .iface 59 (.int .i64 2)) rfl _ _ hr5 rfl rfl rfl rfl) rfl ?_ (HB.out.trans (ho5.below HRB.out))
              exact .inl ⟨_, _, HST3.out, rfl⟩
    · have hze : z = s.size := by have := HLE.out; have := HZE.out; omega
      have HST : Hid (step s.data.toList W H i row col F = .bad z 2) := Lib.hid (by
        rw [HS2.out]
        unfold stepJ
        rw [if_neg HNB.out, if_pos (by rw [← Lib.size_eq, ← HZE.out]; omega), ← HZE.out])
      subst hze
      go_wp2_with (refine Ops.wpList_store_arr rfl 35 _ _ rfl rb rfl 35 noPat noPat rfl HR.out rfl infoPat noPat_one ?_; intro w5 hr5 ho5)
      refine hret _ _ _ (results_pat3 (t := 2) (u := 3) (v := 4) (e := .int .i64 ((s.size : Nat) : Int)) (f := .iface 59 (.int .i64 2)) rfl _ _ hr5 rfl rfl rfl rfl) rfl ?_ (HB.out.trans (ho5.below HRB.out))
      exact .inl ⟨_, _, HST.out, rfl⟩
end Pr
end Go.Proofs.YtgagophijmiceaaDoor

/- WALK: pattern.ParseRuns. -/
namespace Go.Proofs.YtgagophijmiceaaDoor
set_option linter.unusedSimpArgs false
set_option linter.unusedVariables false
open Go.RowKit
namespace Pr
open Tld Mem Bl Pn Pw Rd

theorem word_ok {l ws : List UInt8} {i : Nat} {K : Nat → Hd} {W H j : Nat} (h : word l ws i K = .ok W H j) : K (i + ws.length) = .ok W H j := by
  unfold word at h
  split at h
  · cases h
  · exact h
theorem side_ok2 {l : List UInt8} {i : Nat} {ds : List UInt8} {K : Nat → Nat → Hd} {W H j : Nat} (h : side l i ds K = .ok W H j) : ∃ v : Nat, v ≤ 100 ∧ K v (i + ds.length) = .ok W H j := by
  unfold side at h
  split at h
  · cases h
  · split at h
    · cases h
    · exact ⟨_, by omega, h⟩
theorem far_le (l ws : List UInt8) (i : Nat) : ∀ n, far l ws i n ≤ n ∧ (far l ws i n = n → 0 < n → i + n ≤ l.length)
  | 0 => ⟨Nat.le_refl _, fun _ h => absurd h (Nat.lt_irrefl _)⟩
  | n + 1 => by
    have ih := far_le l ws i n
    unfold far
    split
    · rename_i h
      exact ⟨Nat.le_refl _, fun _ _ => by omega⟩
    · exact ⟨by omega, fun h _ => by omega⟩
theorem head_ok_le {l : List UInt8} {W H i : Nat} (h : head l = .ok W H i) : W ≤ 100 ∧ H ≤ 100 ∧ i ≤ l.length := by
  have h1 := word_ok h
  obtain ⟨v, hv, h2⟩ := side_ok2 h1
  have h3 := word_ok h2
  obtain ⟨u, hu, h4⟩ := side_ok2 h3
  unfold word at h4
  split at h4
  · cases h4
  · rename_i hf
    revert hf h4
    generalize (0 + w1.length + (dgs l (0 + w1.length)).length + w2.length + (dgs l (0 + w1.length + (dgs l (0 + w1.length)).length + w2.length)).length) = I
    intro hf h4
    have h5 := (far_le l w3 I w3.length).2 (by have := (far_le l w3 I w3.length).1; omega) (by decide)
    cases h4
    exact ⟨hv, hu, h5⟩
/-- What ParseRuns hands back. -/
def PrP (l : List UInt8) (w0 : World) (e : Ending) (w' : World) : Prop := match parse l with
  | .bad p ev => e = .returned (.tuple #[.agg #[.int .i64 0, .int .i64 0, .slice none 0 0], .int .i64 (p : Nat), .iface 59 (.int .i64 ev)])
  | .ok W H F => ∃ g N2, e = .returned (.tuple #[.agg (boxP (W : Nat) (H : Nat) (some ⟨g, 0, none⟩) (W * H) N2).toArray, .int .i64 0, .nilIface]) ∧ Vec w' g (W * H) F ∧ w0.heap.size ≤ g
theorem prP_bad {l : List UInt8} {w0 w' : World} {p : Nat} {ev : Int} (h : parse l = .bad p ev) : PrP l w0 (.returned (.tuple #[.agg #[.int .i64 0, .int .i64 0, .slice none 0 0], .int .i64 (p : Nat), .iface 59 (.int .i64 ev)])) w' := by
  unfold PrP
  rw [h]
theorem prP_ok {l : List UInt8} {w0 w' : World} {W H N g N2 : Nat} {F : Nat → Nat} (h : parse l = .ok W H F) (hN : N = W * H) (hv : Vec w' g N F) (hg : w0.heap.size ≤ g) : PrP l w0 (.returned (.tuple #[.agg (boxP (W : Nat) (H : Nat) (some ⟨g, 0, none⟩) N N2).toArray, .int .i64 0, .nilIface])) w' := by
  unfold PrP
  rw [h]
  subst hN
  exact ⟨g, N2, rfl, hv, hg⟩
set_option maxRecDepth 1000000 in
/-- What holds whenever the label is come to. -/
def JR (s : ByteArray) (w0 : World) (rb : Nat) (a : Act) (w : World) : Prop := ∃ (pb g W H N N2 i row col : Nat) (F : Nat → Nat) (c : Nat → Value), a = ⟨#[.string s, c 1, .pointer (some ⟨rb, 0, none⟩), c 3, c 4, .pointer (some ⟨pb, 0, none⟩), .int .i64 ((i : Nat) : Int), c 7, .int .i64 ((row : Nat) : Int), .int .i64 ((col : Nat) : Int), c 10, c 11, c 12, c 13, c 14, c 15, c 16, c 17, c 18, c 19, c 20, c 21, c 22, c 23, c 24, c 25, c 26, c 27, c 28, c 29, c 30, c 31, c 32, c 33, c 34, c 35, c 36, c 37, c 38, c 39, c 40, c 41, c 42, c 43, c 44, c 45, c 46, c 47, c 48, c 49, c 50, c 51, c 52, c 53, c 54, c 55, c 56, c 57, c 58, c 59, c 60, c 61, c 62, c 63, c 64, c 65, c 66, c 67, c 68, c 69, c 70, c 71, c 72, c 73, c 74, c 75, c 76, c 77, c 78, c 79, c 80, c 81, c 82, c 83, c 84, c 85, c 86, c 87, c 88, c 89, c 90, c 91, c 92, c 93, c 94, c 95, c 96, c 97, c 98, c 99, c 100, c 101, c 102, c 103, c 104, c 105, c 106, c 107, c 108, c 109, c 110, c 111, c 112, c 113, c 114, c 115, c 116, c 117, c 118, c 119, c 120, c 121, c 122, c 123, c 124, c 125, c 126, c 127, c 128, c 129, c 130, c 131, c 132, c 133, c 134, c 135, c 136, c 137, c 138, c 139, c 140, c 141, c 142, c 143, c 144, c 145, c 146, c 147, c 148, c 149, c 150, c 151, c 152, c 153, c 154, c 155, c 156, c 157, c 158, c 159, c 160, c 161, c 162, c 163, c 164, c 165, c 166, c 167, c 168, c 169, c 170, c 171, c 172, c 173, c 174, c 175, c 176, c 177, c 178, c 179, c 180, c 181, c 182, c 183, c 184, c 185, c 186, c 187, c 188, c 189, c 190, c 191, c 192, c 193, c 194, c 195, c 196, c 197, c 198, c 199, c 200, c 201, c 202, c 203, c 204, c 205, c 206], []⟩ ∧ s.size ≤ 40000 ∧ i ≤ s.size ∧ Vec w g N F ∧ Row w pb 35 (boxP (W : Nat) (H : Nat) (some ⟨g, 0, none⟩) N N2) ∧ Row w rb 35 noPat ∧ w0.heap.size ≤ rb ∧ Below w0.heap.size w0 w ∧ (pb ≠ g ∧ rb ≠ g ∧ rb ≠ pb ∧ w0.heap.size ≤ g) ∧ N = W * H ∧ W ≤ 100 ∧ H ≤ 100 ∧ col ≤ W ∧ row ≤ H ∧ parse s.data.toList = fin W H (runR s.data.toList W H i row col F)
set_option maxRecDepth 1000000 in
theorem jr_of {s : ByteArray} {w0 w : World} {rb : Nat} {c1 c3 c4 c7 c10 c11 c12 c13 c14 c15 c16 c17 c18 c19 c20 c21 c22 c23 c24 c25 c26 c27 c28 c29 c30 c31 c32 c33 c34 c35 c36 c37 c38 c39 c40 c41 c42 c43 c44 c45 c46 c47 c48 c49 c50 c51 c52 c53 c54 c55 c56 c57 c58 c59 c60 c61 c62 c63 c64 c65 c66 c67 c68 c69 c70 c71 c72 c73 c74 c75 c76 c77 c78 c79 c80 c81 c82 c83 c84 c85 c86 c87 c88 c89 c90 c91 c92 c93 c94 c95 c96 c97 c98 c99 c100 c101 c102 c103 c104 c105 c106 c107 c108 c109 c110 c111 c112 c113 c114 c115 c116 c117 c118 c119 c120 c121 c122 c123 c124 c125 c126 c127 c128 c129 c130 c131 c132 c133 c134 c135 c136 c137 c138 c139 c140 c141 c142 c143 c144 c145 c146 c147 c148 c149 c150 c151 c152 c153 c154 c155 c156 c157 c158 c159 c160 c161 c162 c163 c164 c165 c166 c167 c168 c169 c170 c171 c172 c173 c174 c175 c176 c177 c178 c179 c180 c181 c182 c183 c184 c185 c186 c187 c188 c189 c190 c191 c192 c193 c194 c195 c196 c197 c198 c199 c200 c201 c202 c203 c204 c205 c206 : Value} (pb g W H N N2 i row col : Nat) (F : Nat → Nat) (h : s.size ≤ 40000 ∧ i ≤ s.size ∧ Vec w g N F ∧ Row w pb 35 (boxP (W : Nat) (H : Nat) (some ⟨g, 0, none⟩) N N2) ∧ Row w rb 35 noPat ∧ w0.heap.size ≤ rb ∧ Below w0.heap.size w0 w ∧ (pb ≠ g ∧ rb ≠ g ∧ rb ≠ pb ∧ w0.heap.size ≤ g) ∧ N = W * H ∧ W ≤ 100 ∧ H ≤ 100 ∧ col ≤ W ∧ row ≤ H ∧ parse s.data.toList = fin W H (runR s.data.toList W H i row col F)) : JR s w0 rb ⟨#[.string s, c1, .pointer (some ⟨rb, 0, none⟩), c3, c4, .pointer (some ⟨pb, 0, none⟩), .int .i64 ((i : Nat) : Int), c7, .int .i64 ((row : Nat) : Int), .int .i64 ((col : Nat) : Int), c10, c11, c12, c13, c14, c15, c16, c17, c18, c19, c20, c21, c22, c23, c24, c25, c26, c27, c28, c29, c30, c31, c32, c33, c34, c35, c36, c37, c38, c39, c40, c41, c42, c43, c44, c45, c46, c47, c48, c49, c50, c51, c52, c53, c54, c55, c56, c57, c58, c59, c60, c61, c62, c63, c64, c65, c66, c67, c68, c69, c70, c71, c72, c73, c74, c75, c76, c77, c78, c79, c80, c81, c82, c83, c84, c85, c86, c87, c88, c89, c90, c91, c92, c93, c94, c95, c96, c97, c98, c99, c100, c101, c102, c103, c104, c105, c106, c107, c108, c109, c110, c111, c112, c113, c114, c115, c116, c117, c118, c119, c120, c121, c122, c123, c124, c125, c126, c127, c128, c129, c130, c131, c132, c133, c134, c135, c136, c137, c138, c139, c140, c141, c142, c143, c144, c145, c146, c147, c148, c149, c150, c151, c152, c153, c154, c155, c156, c157, c158, c159, c160, c161, c162, c163, c164, c165, c166, c167, c168, c169, c170, c171, c172, c173, c174, c175, c176, c177, c178, c179, c180, c181, c182, c183, c184, c185, c186, c187, c188, c189, c190, c191, c192, c193, c194, c195, c196, c197, c198, c199, c200, c201, c202, c203, c204, c205, c206], []⟩ w := ⟨pb, g, W, H, N, N2, i, row, col, F, fun k => ([undef, c1, undef, c3, c4, undef, undef, c7, undef, undef, c10, c11, c12, c13, c14, c15, c16, c17, c18, c19, c20, c21, c22, c23, c24, c25, c26, c27, c28, c29, c30, c31, c32, c33, c34, c35, c36, c37, c38, c39, c40, c41, c42, c43, c44, c45, c46, c47, c48, c49, c50, c51, c52, c53, c54, c55, c56, c57, c58, c59, c60, c61, c62, c63, c64, c65, c66, c67, c68, c69, c70, c71, c72, c73, c74, c75, c76, c77, c78, c79, c80, c81, c82, c83, c84, c85, c86, c87, c88, c89, c90, c91, c92, c93, c94, c95, c96, c97, c98, c99, c100, c101, c102, c103, c104, c105, c106, c107, c108, c109, c110, c111, c112, c113, c114, c115, c116, c117, c118, c119, c120, c121, c122, c123, c124, c125, c126, c127, c128, c129, c130, c131, c132, c133, c134, c135, c136, c137, c138, c139, c140, c141, c142, c143, c144, c145, c146, c147, c148, c149, c150, c151, c152, c153, c154, c155, c156, c157, c158, c159, c160, c161, c162, c163, c164, c165, c166, c167, c168, c169, c170, c171, c172, c173, c174, c175, c176, c177, c178, c179, c180, c181, c182, c183, c184, c185, c186, c187, c188, c189, c190, c191, c192, c193, c194, c195, c196, c197, c198, c199, c200, c201, c202, c203, c204, c205, c206] : List Value).getD k undef, rfl, h⟩
def muR (s : ByteArray) (a : Act) : Nat := s.size + 1 - (RowKit.intOf (a.tmps.getD 6 undef)).toNat

set_option maxHeartbeats 4000000 in
set_option maxRecDepth 1000000 in
theorem rn_passJ (s : ByteArray) (w0 : World) (rb : Nat) (a : Act) (w : World) (h : JR s w0 rb a w) (J' : Act → World → Prop) (hJ : ∀ a' w', JR s w0 rb a' w' → muR s a' < muR s a → J' a' w') :
    Code.wp Tryd.prog ((Pc.behind ((Pc.scp (Tryd.f11.body.getD .skip)).getD .skip) 0).getD .skip) (Exit.jump 0 J' (bodyPost Tryd.prog Tryd.f11 fun e w' => PrP s.data.toList w0 e w' ∧ Below w0.heap.size w0 w')) a w := by
  obtain ⟨pb, g, W, H, N, N2, i, row, col, F, c, rfl, hs, hi, hV, hP, hR, hrb, hb, hne, hN, hW, hH, hcl, hrl, hpa⟩ := h
  have hil : i ≤ s.data.toList.length := by rw [← Lib.size_eq]; exact hi
  refine rn_pass w0 w s rb pb g W H N N2 i row col F hs hi hV hP hR hrb hb hne hN hW hH hcl hrl _ _ _ _ _ _ _ _ _ _ _ _ _ _ _ _ _ _ _ _ _ _ _ _ _ _ _ _ _ _ _ _ _ _ _ _ _ _ _ _ _ _ _ _ _ _ _ _ _ _ _ _ _ _ _ _ _ _ _ _ _ _ _ _ _ _ _ _ _ _ _ _ _ _ _ _ _ _ _ _ _ _ _ _ _ _ _ _ _ _ _ _ _ _ _ _ _ _ _ _ _ _ _ _ _ _ _ _ _ _ _ _ _ _ _ _ _ _ _ _ _ _ _ _ _ _ _ _ _ _ _ _ _ _ _ _ _ _ _ _ _ _ _ _ _ _ _ _ _ _ _ _ _ _ _ _ _ _ _ _ _ _ _ _ _ _ _ _ _ _ _ _ _ _ _ _ _ _ _ _ _ _ _ _ _ _ _ _ _ _ _ _ _ _ _ _ _ _ _ _ _ _ ?_ ?_
  · intro u3 u4 u10 u11 u38 u39 u40 u41 u42 u43 u44 u45 u46 u47 u48 u49 u50 u51 u52 u53 u54 u55 u56 u57 u58 u59 u60 u61 u62 u63 u64 u65 u66 u67 u68 u69 u70 u71 u72 u73 u74 u75 u76 u77 u78 u79 u80 u81 u82 u83 u84 u85 u86 u87 u88 u89 u90 u91 u92 u93 u94 u95 u96 u97 u98 u99 u100 u101 u102 u103 u104 u105 u106 u107 u108 u109 u110 u111 u112 u113 u114 u115 u116 u117 u118 u119 u120 u121 u122 u123 u124 u125 u126 u127 u128 u129 u130 u131 u132 u133 u134 u135 u136 u137 u138 u139 u140 u141 u142 u143 u144 u145 u146 u147 u148 u149 u150 u151 u152 u153 u154 u155 u156 u157 u158 u159 u160 u161 u162 u163 u164 u165 u166 u167 u168 u169 u170 u171 u172 u173 u174 u175 u176 u177 u178 u179 u180 u181 u182 u183 u184 u185 u186 u187 u188 u189 u190 u191 u192 u193 u194 u195 u196 u197 u198 u199 u200 u201 u202 u203 u204 u205 u206 w' i' row' col' F' hst hv hp hr hbl
    have hg := step_go hst
    have hil' : i' ≤ s.size := by rw [Lib.size_eq]; exact hg.2.1
    refine ⟨rfl, hJ _ _ ⟨pb, g, W, H, N, N2, i', row', col', F', fun k => ([undef, c 1, undef, u3, u4, undef, undef, c 7, undef, undef, u10, u11, c 12, c 13, c 14, c 15, c 16, c 17, c 18, c 19, c 20, c 21, c 22, c 23, c 24, c 25, c 26, c 27, c 28, c 29, c 30, c 31, c 32, c 33, c 34, c 35, c 36, c 37, u38, u39, u40, u41, u42, u43, u44, u45, u46, u47, u48, u49, u50, u51, u52, u53, u54, u55, u56, u57, u58, u59, u60, u61, u62, u63, u64, u65, u66, u67, u68, u69, u70, u71, u72, u73, u74, u75, u76, u77, u78, u79, u80, u81, u82, u83, u84, u85, u86, u87, u88, u89, u90, u91, u92, u93, u94, u95, u96, u97, u98, u99, u100, u101, u102, u103, u104, u105, u106, u107, u108, u109, u110, u111, u112, u113, u114, u115, u116, u117, u118, u119, u120, u121, u122, u123, u124, u125, u126, u127, u128, u129, u130, u131, u132, u133, u134, u135, u136, u137, u138, u139, u140, u141, u142, u143, u144, u145, u146, u147, u148, u149, u150, u151, u152, u153, u154, u155, u156, u157, u158, u159, u160, u161, u162, u163, u164, u165, u166, u167, u168, u169, u170, u171, u172, u173, u174, u175, u176, u177, u178, u179, u180, u181, u182, u183, u184, u185, u186, u187, u188, u189, u190, u191, u192, u193, u194, u195, u196, u197, u198, u199, u200, u201, u202, u203, u204, u205, u206] : List Value).getD k undef, rfl, hs, hil', hv, hp, hr, hrb, hbl, hne, hN, hW, hH, ?_, ?_, ?_⟩ ?_⟩
    · omega
    · omega
    · rw [hpa, runR_go hil hst]
    · show s.size + 1 - ((i' : Nat) : Int).toNat < s.size + 1 - ((i : Nat) : Int).toNat
      rw [Int.toNat_natCast, Int.toNat_natCast]
      omega
  · intro a' w' v hr hd hv hbl
    show bodyPost Tryd.prog Tryd.f11 (fun e w' => PrP s.data.toList w0 e w' ∧ Below w0.heap.size w0 w') .ret a' w'
    rcases hv with ⟨p, e, hst, rfl⟩ | ⟨F', hst, rfl, hv⟩
    · exact bodyPost_ret hr hd ⟨prP_bad (by rw [hpa, runR_bad hil hst]; rfl), hbl⟩
    · exact bodyPost_ret hr hd ⟨prP_ok (by rw [hpa, runR_ok hil hst]; rfl) hN hv hne.2.2.2, hbl⟩
end Pr
end Go.Proofs.YtgagophijmiceaaDoor

/- WALK: pattern.ParseRuns, whole. -/
namespace Go.Proofs.YtgagophijmiceaaDoor
set_option linter.unusedSimpArgs false
set_option linter.unusedVariables false
open Go.RowKit
namespace Pr
open Tld Mem Bl Pn Pw Rd

theorem parse_long {l : List UInt8} (h : 40000 < l.length) : parse l = .bad 0 4 := by
  unfold parse
  rw [if_pos h]
theorem parse_bad {l : List UInt8} {p : Nat} {e : Int} (hl : l.length ≤ 40000) (h : head l = .bad p e) : parse l = .bad p e := by
  unfold parse
  rw [if_neg (by omega), h]
theorem parse_ok {l : List UInt8} {W H i : Nat} (hl : l.length ≤ 40000) (h : head l = .ok W H i) : parse l = fin W H (runR l W H i 0 0 fun _ => 0) := by
  unfold parse
  rw [if_neg (by omega), h]
set_option maxHeartbeats 8000000 in
set_option maxRecDepth 1000000 in
theorem pruns_any (s : ByteArray) (w : World) (hs : s.size ≤ 1000000000) : Calls Tryd.prog 11 #[.string s] w fun e w' => PrP s.data.toList w e w' ∧ Below w.heap.size w w' := by
  obtain ⟨i0, hI0, hz0, hz1, hz2⟩ := info_parts infoIntV
  go_enter Tryd.func11, Tryd.ntmps11
  go_wp2_with fail
  have hr0 := row_alloc w 35 noPat
  have hb0 : Below w.heap.size w (w.alloc (.cells noPat.toArray 35)) := (Below.refl _ _).alloc (Nat.le_refl _) _
  have hrl0 : w.heap.size < (w.alloc (.cells noPat.toArray 35)).heap.size := hr0.lt
  have HR : Hid (Row (w.alloc (.cells #[.int .i64 0, .int .i64 0, .slice none 0 0] 35)) w.heap.size 35 noPat) := Lib.hid hr0
  have HB : Hid (Below w.heap.size w (w.alloc (.cells #[.int .i64 0, .int .i64 0, .slice none 0 0] 35))) := Lib.hid hb0
  have HRL : Hid (w.heap.size < (w.alloc (.cells #[.int .i64 0, .int .i64 0, .slice none 0 0] 35)).heap.size) := Lib.hid hrl0
  clear hr0 hb0 hrl0
  generalize w.alloc (.cells #[.int .i64 0, .int .i64 0, .slice none 0 0] 35) = w1 at *
  obtain ⟨rb, hrb⟩ : ∃ rb, rb = w.heap.size := ⟨_, rfl⟩
  rw [← hrb] at HR ⊢
  have HRL : Hid (rb < w1.heap.size) := Lib.hid (by rw [hrb]; exact HRL.out)
  have HRB : Hid (w.heap.size ≤ rb) := Lib.hid (by rw [hrb]; exact Nat.le_refl _)
  have HRE := Lib.hid hrb
  clear hrb
  refine wp_scope_jumps 0 (JR s w rb) (fun a _ => muR s a) rfl ?_ ?_
  · by_cases h4 : 40000 < s.size
    · have hlt : (40000 : Int) < (s.size : Int) := by omega
      have HPA : Hid (parse s.data.toList = .bad 0 4) := Lib.hid (parse_long (by rw [← Lib.size_eq]; exact h4))
      clear h4
      go_wp2_with (refine Ops.wpList_store_arr rfl 35 _ _ rfl rb rfl 35 noPat noPat rfl HR.out rfl infoPat noPat_one ?_; intro w5 hr5 ho5)
      show bodyPost Tryd.prog Tryd.f11 (fun e w' => PrP s.data.toList w e w' ∧ Below w.heap.size w w') .ret _ _
      refine bodyPost_ret (results_pat3 (t := 2) (u := 3) (v := 4) (e := .int .i64 0) (f := .iface 59 (.int .i64 4)) rfl _ _ hr5 rfl rfl rfl rfl) rfl ⟨prP_bad (p := 0) HPA.out, HB.out.trans (ho5.below HRB.out)⟩
    · have hlt : ¬ (40000 : Int) < (s.size : Int) := by omega
      have HSZ : Hid (s.size ≤ 40000) := Lib.hid (by omega)
      have HLN : Hid (s.data.toList.length ≤ 40000) := Lib.hid (by rw [← Lib.size_eq]; exact HSZ.out)
      clear h4
      go_wp2_with fail
      refine (header_any s w1 HSZ.out).mono ?_
      rintro e2 w2 ⟨hhd, hb2⟩
      unfold HdP at hhd
      cases hh : head s.data.toList with
      | bad p ev =>
        rw [hh] at hhd
        dsimp only at hhd
        obtain ⟨A, B, rfl⟩ := hhd
        have HPA : Hid (parse s.data.toList = .bad p ev) := Lib.hid (parse_bad HLN.out hh)
        clear hh
        obtain ⟨hr2, hr3, hbn⟩ := two_new w2 35 72 noPat (stp 0 .nilIface)
        have HP : Hid (Row ((w2.alloc (.cells #[.int .i64 0, .int .i64 0, .slice none 0 0] 35)).alloc (.cells #[.int .i64 0, .nilIface] 72)) w2.heap.size 35 noPat) := Lib.hid hr2
        have HS : Hid (Row ((w2.alloc (.cells #[.int .i64 0, .int .i64 0, .slice none 0 0] 35)).alloc (.cells #[.int .i64 0, .nilIface] 72)) (w2.heap.size + 1) 72 (stp 0 .nilIface)) := Lib.hid hr3
        have HR := Lib.hid ((HR.out.keep hb2 HR.out.lt).keep hbn (Nat.lt_of_lt_of_le HR.out.lt hb2.size))
        have HNE : Hid (w2.heap.size ≠ rb ∧ w2.heap.size + 1 ≠ rb ∧ w.heap.size ≤ w2.heap.size) := Lib.hid (by have h1 := HB.out.size; have h2 := hb2.size; have h3 := HRL.out; omega)
        have HB := Lib.hid ((HB.out.trans (hb2.mono HB.out.size)).trans (hbn.mono (Nat.le_trans HB.out.size hb2.size)))
        clear hr2 hr3 hbn hb2
        go_upto_region 4 with (first | (refine Ops.wpList_store_arr rfl 35 _ _ rfl w2.heap.size rfl 35 noPat (boxP A B none 0 0) rfl HP.out rfl infoPat (boxP_one _ _ _ _ _) ?_; intro w3 hp3 ho3) | (refine Ops.wpList_store_arr rfl 72 _ _ rfl (w2.heap.size + 1) rfl 72 (stp 0 .nilIface) (stp ((p : Nat) : Int) (.iface 59 (.int .i64 ev))) rfl (HS.out.other ho3 (Nat.succ_ne_self _)) rfl infoStop (stp_one _ _) ?_; intro w4 hs4 ho4))
        have HP := Lib.hid (hp3.other ho4 (Nat.succ_ne_self _).symm)
        have HS := Lib.hid hs4
        have HR := Lib.hid ((HR.out.other ho3 HNE.out.1.symm).other ho4 HNE.out.2.1.symm)
        have HB := Lib.hid ((HB.out.trans (ho3.below HNE.out.2.2)).trans (ho4.below (Nat.le_succ_of_le HNE.out.2.2)))
        clear hp3 hs4 ho3 ho4
        obtain ⟨pb, hpb⟩ : ∃ pb, pb = w2.heap.size := ⟨_, rfl⟩
        rw [← hpb] at HP HNE ⊢
        obtain ⟨tb, htb⟩ : ∃ tb, tb = pb + 1 := ⟨_, rfl⟩
        rw [← hpb, ← htb] at HS
        rw [← htb] at HNE ⊢
        clear hpb htb
        have f1 := HS.out.cell 1
        unfold stp at f1
        dsimp only [List.getElem?_cons_succ, List.getElem?_cons_zero] at f1
        go_upto_region 5 with fail
        clear f1
        obtain ⟨wr, hwr⟩ : ∃ wr, wr = w4 := ⟨_, rfl⟩
        rw [← hwr] at HP HS HR HB ⊢
        clear hwr
        have hdr : Below wr.heap.size wr wr.drew := (Below.refl _ _).drew
        have HTd := Lib.hid (HS.out.keep hdr HS.out.lt)
        have HRd := Lib.hid (HR.out.keep hdr HR.out.lt)
        have HBd := Lib.hid (HB.out.trans (hdr.mono HB.out.size))
        have HNE := Lib.hid HNE.out.2.1
        unfold stp at HTd
        clear hdr HP HS HR HB
        refine wp_region_noPanic ?_
        refine Rt.region_Cn (Sc2 (fun w2 => w2.cell? ⟨tb, 0, none⟩ = some (.int .i64 ((p : Nat) : Int)) ∧ w2.cell? ⟨tb, 1, none⟩ = some (.iface 59 (.int .i64 ev))) (fun w2 => True) 999) 8 #[false, false, false, false, false, false, false, false] (by kernel_rfl) (by kernel_rfl) (by kernel_rfl) ?_
        have hS1 : ∀ o, Sc2 (fun w2 => w2.cell? ⟨tb, 0, none⟩ = some (.int .i64 ((p : Nat) : Int)) ∧ w2.cell? ⟨tb, 1, none⟩ = some (.iface 59 (.int .i64 ev))) (fun w2 => True) 999 o wr.drew := Sc2.of ⟨HTd.out.cell 0, HTd.out.cell 1⟩ trivial
        refine Rt.C_take (none) (i := 0) (oi := _) (v := ?_) rfl (by kernel_rfl) (by kernel_rfl) (by kernel_rfl) (by kernel_rfl) (fun _ _ _ h => h) (Sc2.other (by decide)) (Or.inl ⟨by rfl, ?_⟩) (fun o' _ => hS1 o') ?_
        rotate_left
        · intro w2 hSw
          obtain ⟨s0, s1⟩ := hSw
          go_simp
          try with_reducible rfl
        simp only [Act.put, List.getElem_toArray, List.getElem_cons_succ, List.getElem_cons_zero, List.setIfInBounds_toArray, List.set_cons_zero, List.set_cons_succ]
        refine Rt.C_take (none) (i := 1) (oi := _) (v := ?_) rfl (by kernel_rfl) (by kernel_rfl) (by kernel_rfl) (by kernel_rfl) (fun _ _ _ h => h) (Sc2.other (by decide)) (Or.inl ⟨by rfl, ?_⟩) (fun o' _ => hS1 o') ?_
        rotate_left
        · intro w2 hSw
          obtain ⟨s0, s1⟩ := hSw
          go_simp
          try with_reducible rfl
        simp only [Act.put, List.getElem_toArray, List.getElem_cons_succ, List.getElem_cons_zero, List.setIfInBounds_toArray, List.set_cons_zero, List.set_cons_succ]
        refine Rt.C_take (none) (i := 2) (oi := _) (v := ?_) rfl (by kernel_rfl) (by kernel_rfl) (by kernel_rfl) (by kernel_rfl) (fun _ _ _ h => h) (Sc2.other (by decide)) (Or.inl ⟨by rfl, ?_⟩) (fun o' _ => hS1 o') ?_
        rotate_left
        · intro w2 hSw
          obtain ⟨s0, s1⟩ := hSw
          go_simp
          try with_reducible rfl
        simp only [Act.put, List.getElem_toArray, List.getElem_cons_succ, List.getElem_cons_zero, List.setIfInBounds_toArray, List.set_cons_zero, List.set_cons_succ]
        refine Rt.C_take (none) (i := 3) (oi := _) (v := ?_) rfl (by kernel_rfl) (by kernel_rfl) (by kernel_rfl) (by kernel_rfl) (fun _ _ _ h => h) (Sc2.other (by decide)) (Or.inl ⟨by rfl, ?_⟩) (fun o' _ => hS1 o') ?_
        rotate_left
        · intro w2 hSw
          obtain ⟨s0, s1⟩ := hSw
          go_simp
          try with_reducible rfl
        simp only [Act.put, List.getElem_toArray, List.getElem_cons_succ, List.getElem_cons_zero, List.setIfInBounds_toArray, List.set_cons_zero, List.set_cons_succ]
        refine Rt.C_take (none) (i := 4) (oi := _) (v := ?_) rfl (by kernel_rfl) (by kernel_rfl) (by kernel_rfl) (by kernel_rfl) (fun _ _ _ h => h) (Sc2.other (by decide)) (Or.inl ⟨by rfl, ?_⟩) (fun o' _ => hS1 o') ?_
        rotate_left
        · intro w2 hSw
          obtain ⟨s0, s1⟩ := hSw
          go_simp
          try with_reducible rfl
        simp only [Act.put, List.getElem_toArray, List.getElem_cons_succ, List.getElem_cons_zero, List.setIfInBounds_toArray, List.set_cons_zero, List.set_cons_succ]
        clear hS1
        generalize wr.drew = wd at *
        refine Rt.C_ready (rs := [5]) (by kernel_rfl) (by simp) ?_
        refine Rt.AllC.cons (i := 5) (o := _) rfl (by rfl) (fun K' hK => ?_) ?_
        · skip
          refine wp_store_arr 35 _ _ rfl rb (by rfl) 35 noPat noPat (by rfl) HRd.out rfl infoPat noPat_one ?_
          intro w7 hr7 ho7
          have HT7 := Lib.hid (HTd.out.other ho7 HNE.out)
          have HB7 := Lib.hid (HBd.out.trans (ho7.below HRB.out))
          have hS2 : ∀ o, Sc2 (fun w2 => w2.cell? ⟨tb, 0, none⟩ = some (.int .i64 ((p : Nat) : Int)) ∧ w2.cell? ⟨tb, 1, none⟩ = some (.iface 59 (.int .i64 ev))) (fun w2 => True) 999 o w7 := Sc2.of ⟨HT7.out.cell 0, HT7.out.cell 1⟩ trivial
          refine hK _ _ (fun o _ => hS2 o) ?_
          clear hK K'
          simp only [Act.put, List.getElem_toArray, List.getElem_cons_succ, List.getElem_cons_zero, List.setIfInBounds_toArray, List.set_cons_zero, List.set_cons_succ]
          refine Rt.C_take (none) (i := 6) (oi := _) (v := ?_) rfl (by kernel_rfl) (by kernel_rfl) (by kernel_rfl) (by kernel_rfl) (fun _ _ _ h => h) (Sc2.other (by decide)) (Or.inl ⟨by rfl, ?_⟩) (fun o _ => hS2 o) ?_
          rotate_left
          · intro w2 hSw
            obtain ⟨s0, s1⟩ := hSw
            go_simp
            try with_reducible rfl
          simp only [Act.put, List.getElem_toArray, List.getElem_cons_succ, List.getElem_cons_zero, List.setIfInBounds_toArray, List.set_cons_zero, List.set_cons_succ]
          refine Rt.C_take (none) (i := 7) (oi := _) (v := ?_) rfl (by kernel_rfl) (by kernel_rfl) (by kernel_rfl) (by kernel_rfl) (fun _ _ _ h => h) (Sc2.other (by decide)) (Or.inl ⟨by rfl, ?_⟩) (fun o _ => hS2 o) ?_
          rotate_left
          · intro w2 hSw
            obtain ⟨s0, s1⟩ := hSw
            go_simp
            try with_reducible rfl
          simp only [Act.put, List.getElem_toArray, List.getElem_cons_succ, List.getElem_cons_zero, List.setIfInBounds_toArray, List.set_cons_zero, List.set_cons_succ]
          refine Rt.C_done (by kernel_rfl) ?_ _
          refine NoPanic.normal ?_
          clear hS2
          go_wp2_with fail
          show bodyPost Tryd.prog Tryd.f11 (fun e w' => PrP s.data.toList w e w' ∧ Below w.heap.size w w') .ret _ _
          refine bodyPost_ret (results_pat3 (t := 2) (u := 3) (v := 4) (e := .int .i64 ((p : Nat) : Int)) (f := .iface 59 (.int .i64 ev)) rfl _ _ hr7 rfl rfl rfl rfl) rfl ⟨prP_bad HPA.out, HB7.out⟩
        exact Rt.AllC.nil
      | ok W H i =>
        rw [hh] at hhd
        dsimp only at hhd
        subst hhd
        obtain ⟨hW, hH, hi⟩ := head_ok_le hh
        have HPA : Hid (parse s.data.toList = fin W H (runR s.data.toList W H i 0 0 fun _ => 0)) := Lib.hid (parse_ok HLN.out hh)
        have HI : Hid (i ≤ s.size) := Lib.hid (by rw [Lib.size_eq]; exact hi)
        clear hh hi
        obtain ⟨hr2, hr3, hbn⟩ := two_new w2 35 72 noPat (stp 0 .nilIface)
        have HP : Hid (Row ((w2.alloc (.cells #[.int .i64 0, .int .i64 0, .slice none 0 0] 35)).alloc (.cells #[.int .i64 0, .nilIface] 72)) w2.heap.size 35 noPat) := Lib.hid hr2
        have HS : Hid (Row ((w2.alloc (.cells #[.int .i64 0, .int .i64 0, .slice none 0 0] 35)).alloc (.cells #[.int .i64 0, .nilIface] 72)) (w2.heap.size + 1) 72 (stp 0 .nilIface)) := Lib.hid hr3
        have HR := Lib.hid ((HR.out.keep hb2 HR.out.lt).keep hbn (Nat.lt_of_lt_of_le HR.out.lt hb2.size))
        have HNE : Hid (w2.heap.size ≠ rb ∧ w2.heap.size + 1 ≠ rb ∧ w.heap.size ≤ w2.heap.size) := Lib.hid (by have h1 := HB.out.size; have h2 := hb2.size; have h3 := HRL.out; omega)
        have HB := Lib.hid ((HB.out.trans (hb2.mono HB.out.size)).trans (hbn.mono (Nat.le_trans HB.out.size hb2.size)))
        clear hr2 hr3 hbn hb2
        go_upto_region 4 with (first | (refine Ops.wpList_store_arr rfl 35 _ _ rfl w2.heap.size rfl 35 noPat (boxP (W : Nat) (H : Nat) none 0 0) rfl HP.out rfl infoPat (boxP_one _ _ _ _ _) ?_; intro w3 hp3 ho3) | (refine Ops.wpList_store_arr rfl 72 _ _ rfl (w2.heap.size + 1) rfl 72 (stp 0 .nilIface) (stp 0 .nilIface) rfl (HS.out.other ho3 (Nat.succ_ne_self _)) rfl infoStop (stp_one0 _) ?_; intro w4 hs4 ho4))
        have HP := Lib.hid (hp3.other ho4 (Nat.succ_ne_self _).symm)
        have HS := Lib.hid hs4
        have HR := Lib.hid ((HR.out.other ho3 HNE.out.1.symm).other ho4 HNE.out.2.1.symm)
        have HB := Lib.hid ((HB.out.trans (ho3.below HNE.out.2.2)).trans (ho4.below (Nat.le_succ_of_le HNE.out.2.2)))
        clear hp3 hs4 ho3 ho4
        obtain ⟨pb, hpb⟩ : ∃ pb, pb = w2.heap.size := ⟨_, rfl⟩
        rw [← hpb] at HP HNE ⊢
        obtain ⟨tb, htb⟩ : ∃ tb, tb = pb + 1 := ⟨_, rfl⟩
        rw [← hpb, ← htb] at HS
        rw [← htb] at HNE ⊢
        clear hpb htb
        have f1 := HS.out.cell 1
        unfold stp at f1
        dsimp only [List.getElem?_cons_succ, List.getElem?_cons_zero] at f1
        go_upto_region 6 with fail
        clear f1
        obtain ⟨N, hN⟩ : ∃ N, N = W * H := ⟨_, rfl⟩
        have hN2 : N ≤ 10000 := by rw [hN]; exact Nat.mul_le_mul hW hH
        have HWB := Lib.hid hW
        have HHB := Lib.hid hH
        have hwh : wrap64 ((W : Int) * (H : Int)) = ((N : Nat) : Int) := wr_nat (by rw [hN]; push_cast; rfl) (by omega)
        have HN := Lib.hid hN
        clear hN hW hH
        have HRX := Lib.hid HR.out.lt
        have HPL0 := Lib.hid HP.out.lt
        have f0 := HP.out.cell 0
        have f1 := HP.out.cell 1
        unfold boxP at f0 f1
        dsimp only [List.getElem?_cons_succ, List.getElem?_cons_zero] at f0 f1
        go_wp2_with (refine Ops.wpList_make rfl 22 _ _ rfl 3 i0 (.int .i64 0) Tryd.underlying22 hI0 hz0 rfl hz1 (by rw [hz2]; decide) N (congrArg (Value.int .i64) hwh) (congrArg (Value.int .i64) hwh) (by omega) ?_; intro g w5 hg hb5 hRg; have z2 := (HP.out.keep hb5 HP.out.lt).frozen 2; have f3 : w5.cell? ⟨pb, 2, none⟩ = some (.slice none 0 0) := (HP.out.keep hb5 HP.out.lt).cell 2)
        have HP := Lib.hid (HP.out.keep hb5 HP.out.lt)
        have HR := Lib.hid (HR.out.keep hb5 HR.out.lt)
        have hpl := HP.out.lt
        have HGN : Hid (pb ≠ g ∧ rb ≠ g ∧ rb ≠ pb ∧ w.heap.size ≤ g) := Lib.hid (by
          have h1 := HRX.out; have h2 := HPL0.out; have h3 := HB.out.size; have h4 := HNE.out.1; omega)
        have HB := Lib.hid (HB.out.trans (hb5.mono HB.out.size))
        have HV := Lib.hid (vec_made hRg)
        clear hRg hb5 hpl
        have hon := only_setCell w5 pb 2 (.slice (some ⟨g, 0, none⟩) N N)
        have HP : Hid (Row (w5.setCell ⟨pb, 2, none⟩ (.slice (some ⟨g, 0, none⟩) N N)) pb 35 (boxP (W : Nat) (H : Nat) (some ⟨g, 0, none⟩) N N)) := Lib.hid (HP.out.set 2 (.slice (some ⟨g, 0, none⟩) N N))
        have HV := Lib.hid (HV.out.other hon HGN.out.1.symm)
        have HR := Lib.hid (HR.out.other hon HGN.out.2.2.1)
        have HB := Lib.hid (HB.out.trans (hon.below HNE.out.2.2))
        clear hon f0 f1 f3 z2 hwh hN2
        generalize w5.setCell ⟨pb, 2, none⟩ (.slice (some ⟨g, 0, none⟩) N N) = w6 at *
        go_wp2_with fail
        go_step3
        rename ∀ (a : Act) (w : World), Code.wp _ _ _ a w → _ => hKK
        refine hKK _ _ ?_
        refine rn_passJ s w rb _ _ ?_ _ (fun _ _ hj _ => hj)
        exact jr_of pb g W H N N i 0 0 (fun _ => 0) ⟨HSZ.out, HI.out, HV.out, HP.out, HR.out, HRB.out, HB.out, HGN.out, HN.out, HWB.out, HHB.out, Nat.zero_le _, Nat.zero_le _, HPA.out⟩
  · intro a w' hJ
    exact wp_seq (wp_skip (rn_passJ s w rb a w' hJ _ (fun a' w'' hj hm => ⟨hj, hm⟩)))
end Pr
end Go.Proofs.YtgagophijmiceaaDoor
