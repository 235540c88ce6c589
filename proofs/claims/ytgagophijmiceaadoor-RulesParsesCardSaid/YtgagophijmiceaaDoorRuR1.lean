/- WALK: the reader's rule: letters L, R. -/
import Derived.Test.YtgagophijmiceaaDoorRuW
namespace Go.Proofs.YtgagophijmiceaaDoor
set_option linter.unusedSimpArgs false
set_option linter.unusedVariables false
open Go.RowKit
namespace Pr
open Tld Mem Bl Pn Pw Rd

theorem lrs_step {l : List UInt8} {i k : Nat} (h : i < l.length ∧ (l.getD i 0 = 76 ∨ l.getD i 0 = 82)) : lrs l i (k + 1) = lrs l (i + 1) k + 1 := by
  rw [lrs, if_pos h]
theorem lrs_stop {l : List UInt8} {i k : Nat} (h : ¬ (i < l.length ∧ (l.getD i 0 = 76 ∨ l.getD i 0 = 82))) : lrs l i k = 0 := by
  cases k with
  | zero => rfl
  | succ k => rw [lrs, if_neg h]
theorem lrs_le (l : List UInt8) : ∀ k i, lrs l i k ≤ k ∧ (i ≤ l.length → i + lrs l i k ≤ l.length)
  | 0, i => ⟨Nat.le_refl _, fun h => h⟩
  | k + 1, i => by
    rw [lrs]
    split
    · rename_i h
      have := lrs_le l k (i + 1)
      exact ⟨by omega, fun _ => by have := this.2 (by omega); omega⟩
    · exact ⟨Nat.zero_le _, fun h => h⟩
set_option maxHeartbeats 8000000 in
set_option maxRecDepth 1000000 in
theorem ru_lr (w : World) (s : ByteArray) (b i : Nat) (hs : s.size ≤ 9223372036854775807) (hi : i ≤ s.size) (hR : Row w b 62 (rdr s i))
    (c1 c2 c3 c4 c6 c7 c8 c9 c10 c11 c12 c13 c14 c15 c16 c17 c18 c19 c20 c21 c22 c23 c24 c25 c26 c27 c28 c29 c30 c31 c32 c33 c34 c35 c36 c37 c38 c39 c40 c41 c42 c43 c44 c45 c46 c47 c48 c49 c50 c51 c52 c53 c54 c55 c56 c57 c58 c59 c60 c61 c62 c63 c64 c65 c66 c67 c68 c69 c70 c71 c72 c73 c74 c75 c76 c77 c78 c79 c80 c81 c82 c83 c84 c85 c86 c87 c88 c89 c90 c91 c92 c93 c94 c95 c96 c97 c98 c99 c100 c101 c102 c103 c104 c105 c106 c107 c108 c109 c110 c111 c112 c113 c114 c115 c116 c117 c118 c119 c120 c121 c122 c123 c124 c125 c126 c127 c128 c129 c130 c131 c132 c133 c134 c135 c136 c137 c138 c139 c140 c141 c142 c143 c144 c145 c146 c147 c148 c149 c150 c151 c152 c153 c154 c155 c156 c157 c158 c159 c160 c161 c162 c163 c164 c165 c166 c167 c168 c169 c170 c171 c172 c173 c174 c175 c176 c177 c178 c179 c180 c181 c182 c183 c184 c185 c186 c187 c188 c189 c190 c191 c192 c193 c194 c195 c196 c197 c198 c199 c200 c201 c202 c203 c204 c205 c206 c207 c208 c209 c210 c211 c212 c213 c214 c215 c216 c217 c218 c219 c220 c221 c222 c223 c224 c225 c226 c227 c228 c229 c230 c231 c232 c233 c234 c235 c236 c237 c238 c239 c240 c241 c242 c243 c244 c245 c246 c247 c248 c249 c250 c251 c252 c253 c254 c255 c256 c257 c258 : Value) (Q : Exit → Act → World → Prop)
    (hnext : ∀ {u183 u184 u185 u186 u187 u188 u189 u190 u191 u192 u193 u194 u195 u196 u197 u198 u199 u200 u201 u202 u203 u204 u205 u206 u207 u208 u209 u210 u211 u212 u213 u214 u215 u216 u217 u218 u219 u220 u221 u222 u223 u224 u225 u226 u227 u228 u229 u230 u231 u232 : Value} {w' : World}, Row w' b 62 (rdr s (i + lrs s.data.toList i 26)) → Only b w w' → Q .normal ⟨#[.pointer (some ⟨b, 0, none⟩), c1, c2, c3, c4, .int .i64 ((i : Nat) : Int), c6, c7, c8, c9, c10, c11, c12, c13, c14, c15, c16, c17, c18, c19, c20, c21, c22, c23, c24, c25, c26, c27, c28, c29, c30, c31, c32, c33, c34, c35, c36, c37, c38, c39, c40, c41, c42, c43, c44, c45, c46, c47, c48, c49, c50, c51, c52, c53, c54, c55, c56, c57, c58, c59, c60, c61, c62, c63, c64, c65, c66, c67, c68, c69, c70, c71, c72, c73, c74, c75, c76, c77, c78, c79, c80, c81, c82, c83, c84, c85, c86, c87, c88, c89, c90, c91, c92, c93, c94, c95, c96, c97, c98, c99, c100, c101, c102, c103, c104, c105, c106, c107, c108, c109, c110, c111, c112, c113, c114, c115, c116, c117, c118, c119, c120, c121, c122, c123, c124, c125, c126, c127, c128, c129, c130, c131, c132, c133, c134, c135, c136, c137, c138, c139, c140, c141, c142, c143, c144, c145, c146, c147, c148, c149, c150, c151, c152, c153, c154, c155, c156, c157, c158, c159, c160, c161, c162, c163, c164, c165, c166, c167, c168, c169, c170, c171, c172, c173, c174, c175, c176, c177, c178, c179, c180, c181, c182, u183, u184, u185, u186, u187, u188, u189, u190, u191, u192, u193, u194, u195, u196, u197, u198, u199, u200, u201, u202, u203, u204, u205, u206, u207, u208, u209, u210, u211, u212, u213, u214, u215, u216, u217, u218, u219, u220, u221, u222, u223, u224, u225, u226, u227, u228, u229, u230, u231, u232, c233, c234, c235, c236, c237, c238, c239, c240, c241, c242, c243, c244, c245, c246, c247, c248, c249, c250, c251, c252, c253, c254, c255, c256, c257, c258], []⟩ w')
    : Code.wp Tryd.prog ((Pc.blk 5 (Tryd.f30.body.getD .skip)).getD .skip) Q ⟨#[.pointer (some ⟨b, 0, none⟩), c1, c2, c3, c4, .int .i64 ((i : Nat) : Int), c6, c7, c8, c9, c10, c11, c12, c13, c14, c15, c16, c17, c18, c19, c20, c21, c22, c23, c24, c25, c26, c27, c28, c29, c30, c31, c32, c33, c34, c35, c36, c37, c38, c39, c40, c41, c42, c43, c44, c45, c46, c47, c48, c49, c50, c51, c52, c53, c54, c55, c56, c57, c58, c59, c60, c61, c62, c63, c64, c65, c66, c67, c68, c69, c70, c71, c72, c73, c74, c75, c76, c77, c78, c79, c80, c81, c82, c83, c84, c85, c86, c87, c88, c89, c90, c91, c92, c93, c94, c95, c96, c97, c98, c99, c100, c101, c102, c103, c104, c105, c106, c107, c108, c109, c110, c111, c112, c113, c114, c115, c116, c117, c118, c119, c120, c121, c122, c123, c124, c125, c126, c127, c128, c129, c130, c131, c132, c133, c134, c135, c136, c137, c138, c139, c140, c141, c142, c143, c144, c145, c146, c147, c148, c149, c150, c151, c152, c153, c154, c155, c156, c157, c158, c159, c160, c161, c162, c163, c164, c165, c166, c167, c168, c169, c170, c171, c172, c173, c174, c175, c176, c177, c178, c179, c180, c181, c182, c183, c184, c185, c186, c187, c188, c189, c190, c191, c192, c193, c194, c195, c196, c197, c198, c199, c200, c201, c202, c203, c204, c205, c206, c207, c208, c209, c210, c211, c212, c213, c214, c215, c216, c217, c218, c219, c220, c221, c222, c223, c224, c225, c226, c227, c228, c229, c230, c231, c232, c233, c234, c235, c236, c237, c238, c239, c240, c241, c242, c243, c244, c245, c246, c247, c248, c249, c250, c251, c252, c253, c254, c255, c256, c257, c258], []⟩ w := by
  conv => arg 2; whnf
  have HSZ := Lib.hid hs
  have HI := Lib.hid hi
  have HR := Lib.hid hR
  clear hR hs hi
  go_wp2_with fail
  go_loopw [] (fun wx => ∃ j : Nat, j ≤ 26 ∧ Row wx b 62 (rdr s (i + j)) ∧ Only b w wx ∧ lrs s.data.toList i 26 = j + lrs s.data.toList (i + j) (26 - j) ∧ i + j ≤ s.size) (fun wx => s.size - rat wx b)
  case atStart => exact ⟨0, Nat.zero_le _, HR.out, Only.refl _ _, by rw [Nat.zero_add]; rfl, HI.out⟩
  case round =>
    clear HR
    obtain ⟨j, hj, hr, ho, hl, hz⟩ := hrel
    have HR := Lib.hid hr
    have HO := Lib.hid ho
    have HLR := Lib.hid hl
    have hrat := rat_row hr
    rw [hrat]
    clear hr ho hl hrat
    obtain ⟨z, hze⟩ : ∃ z, z = i + j := ⟨_, rfl⟩
    rw [← hze] at HR hz ⊢
    have HZE := Lib.hid hze
    have HZL := Lib.hid hz
    have f0 := HR.out.cell 0
    have f1 := HR.out.cell 1
    unfold rdr at f0 f1
    dsimp only [List.getElem?_cons_succ, List.getElem?_cons_zero] at f0 f1
    have W0 : Hid (wrap64 ((z : Int) - (i : Int)) = ((j : Nat) : Int)) := Lib.hid (wr48 (by rw [hze]; push_cast; omega) (by omega))
    by_cases hzs : z < s.size
    · have hji : (z : Int) < (s.size : Int) := by omega
      have hg := get_drop s hzs
      have HZS := Lib.hid hzs
      obtain ⟨x, hx⟩ : ∃ x, x = s.data.toList.getD z 0 := ⟨_, rfl⟩
      rw [← hx] at hg
      have HX := Lib.hid hx
      clear hx hze hz
      by_cases h76 : x = 76
      · have HLET : Hid (x = 76 ∨ x = 82) := Lib.hid (.inl h76)
        have q76 : ((x.toNat : Int) == 76) = true := byte_eq (k := 76) (by decide) h76
        clear h76
        by_cases hj26 : j < 26
        · have HJ26 : Hid (j + 1 ≤ 26) := Lib.hid hj26
          have hjj : (j : Int) < 26 := by omega
          clear hj26 hj
          have w0 := W0.out
          have HNX : Hid (lrs s.data.toList i 26 = (j + 1) + lrs s.data.toList (i + (j + 1)) (26 - (j + 1))) := Lib.hid (by
            rw [HLR.out, show 26 - j = (26 - (j + 1)) + 1 by have := HJ26.out; omega, lrs_step (by rw [← HZE.out, ← HX.out]; exact ⟨by rw [← Lib.size_eq]; exact HZS.out, HLET.out⟩), show i + (j + 1) = i + j + 1 from rfl]
            omega)
          have E1 : Hid (wrap64 ((z : Int) + 1) = ((z + 1 : Nat) : Int)) := Lib.hid (wr48 (by push_cast; rfl) (by have := HSZ.out; have := HZS.out; omega))
          go_upto_region 37 with fail
          go_big_quiet (fail)
          clear w0
          generalize hw2 : World.drewN wr _ = w2 at *
          have hon : Only b wr w2 := by rw [← hw2]; exact only_drewN (Only.refl _ _) _
          have HR := Lib.hid (show Row w2 b 62 (rdr s z) by rw [← hw2]; exact HR.out.drewN _)
          have HO := Lib.hid (HO.out.trans hon)
          clear hon hw2 f0 f1
          clear hg
          have f0 := HR.out.cell 0
          have f1 := HR.out.cell 1
          unfold rdr at f0 f1
          dsimp only [List.getElem?_cons_succ, List.getElem?_cons_zero] at f0 f1
          have z1 := HR.out.frozen 1
          have e1 := E1.out
          go_wp2_with fail
          clear f0 f1 z1 e1
          have hon := only_setCell w2 b 1 (.int .i64 ((z + 1 : Nat) : Int))
          have hr2 : Row (w2.setCell ⟨b, 1, none⟩ (.int .i64 ((z + 1 : Nat) : Int))) b 62 (rdr s (z + 1)) := HR.out.set 1 (.int .i64 ((z + 1 : Nat) : Int))
          go_roundw
          case rel => exact ⟨j + 1, HJ26.out, by rw [show i + (j + 1) = z + 1 by rw [HZE.out]; rfl]; exact hr2, HO.out.trans hon, HNX.out, by have := HZS.out; have := HZE.out; omega⟩
          case measure =>
            show s.size - rat (w2.setCell ⟨b, 1, none⟩ (.int .i64 ((z + 1 : Nat) : Int))) b < _
            rw [rat_row hr2]
            have := HZS.out
            omega
        · have hjj : ¬ (j : Int) < 26 := by omega
          have HFIN : Hid (i + lrs s.data.toList i 26 = i + j) := Lib.hid (by rw [HLR.out, show 26 - j = 0 by omega]; rfl)
          clear hj26 hj
          have w0 := W0.out
          go_upto_region 37 with fail
          go_big_quiet (fail)
          clear w0
          generalize hw2 : World.drewN wr _ = w2 at *
          have hon : Only b wr w2 := by rw [← hw2]; exact only_drewN (Only.refl _ _) _
          have HR := Lib.hid (show Row w2 b 62 (rdr s z) by rw [← hw2]; exact HR.out.drewN _)
          have HO := Lib.hid (HO.out.trans hon)
          clear hon hw2 f0 f1
          go_wp2_with fail
          exact hnext (by rw [HFIN.out, ← HZE.out]; exact HR.out) HO.out
      · by_cases h82 : x = 82
        · have HLET : Hid (x = 76 ∨ x = 82) := Lib.hid (.inr h82)
          have q76 : ((x.toNat : Int) == 76) = false := byte_ne (k := 76) (by decide) h76
          have q82 : ((x.toNat : Int) == 82) = true := byte_eq (k := 82) (by decide) h82
          clear h76 h82
          by_cases hj26 : j < 26
          · have HJ26 : Hid (j + 1 ≤ 26) := Lib.hid hj26
            have hjj : (j : Int) < 26 := by omega
            clear hj26 hj
            have w0 := W0.out
            have HNX : Hid (lrs s.data.toList i 26 = (j + 1) + lrs s.data.toList (i + (j + 1)) (26 - (j + 1))) := Lib.hid (by
              rw [HLR.out, show 26 - j = (26 - (j + 1)) + 1 by have := HJ26.out; omega, lrs_step (by rw [← HZE.out, ← HX.out]; exact ⟨by rw [← Lib.size_eq]; exact HZS.out, HLET.out⟩), show i + (j + 1) = i + j + 1 from rfl]
              omega)
            have E1 : Hid (wrap64 ((z : Int) + 1) = ((z + 1 : Nat) : Int)) := Lib.hid (wr48 (by push_cast; rfl) (by have := HSZ.out; have := HZS.out; omega))
            go_upto_region 37 with fail
            go_big_quiet (fail)
            clear w0
            generalize hw2 : World.drewN wr _ = w2 at *
            have hon : Only b wr w2 := by rw [← hw2]; exact only_drewN (Only.refl _ _) _
            have HR := Lib.hid (show Row w2 b 62 (rdr s z) by rw [← hw2]; exact HR.out.drewN _)
            have HO := Lib.hid (HO.out.trans hon)
            clear hon hw2 f0 f1
            clear hg
            have f0 := HR.out.cell 0
            have f1 := HR.out.cell 1
            unfold rdr at f0 f1
            dsimp only [List.getElem?_cons_succ, List.getElem?_cons_zero] at f0 f1
            have z1 := HR.out.frozen 1
            have e1 := E1.out
            go_wp2_with fail
            clear f0 f1 z1 e1
            have hon := only_setCell w2 b 1 (.int .i64 ((z + 1 : Nat) : Int))
            have hr2 : Row (w2.setCell ⟨b, 1, none⟩ (.int .i64 ((z + 1 : Nat) : Int))) b 62 (rdr s (z + 1)) := HR.out.set 1 (.int .i64 ((z + 1 : Nat) : Int))
            go_roundw
            case rel => exact ⟨j + 1, HJ26.out, by rw [show i + (j + 1) = z + 1 by rw [HZE.out]; rfl]; exact hr2, HO.out.trans hon, HNX.out, by have := HZS.out; have := HZE.out; omega⟩
            case measure =>
              show s.size - rat (w2.setCell ⟨b, 1, none⟩ (.int .i64 ((z + 1 : Nat) : Int))) b < _
              rw [rat_row hr2]
              have := HZS.out
              omega
          · have hjj : ¬ (j : Int) < 26 := by omega
            have HFIN : Hid (i + lrs s.data.toList i 26 = i + j) := Lib.hid (by rw [HLR.out, show 26 - j = 0 by omega]; rfl)
            clear hj26 hj
            have w0 := W0.out
            go_upto_region 37 with fail
            go_big_quiet (fail)
            clear w0
            generalize hw2 : World.drewN wr _ = w2 at *
            have hon : Only b wr w2 := by rw [← hw2]; exact only_drewN (Only.refl _ _) _
            have HR := Lib.hid (show Row w2 b 62 (rdr s z) by rw [← hw2]; exact HR.out.drewN _)
            have HO := Lib.hid (HO.out.trans hon)
            clear hon hw2 f0 f1
            go_wp2_with fail
            exact hnext (by rw [HFIN.out, ← HZE.out]; exact HR.out) HO.out
        · have HFIN : Hid (i + lrs s.data.toList i 26 = i + j) := Lib.hid (by
            rw [HLR.out, lrs_stop (fun h => by rcases h.2 with h | h; exact h76 (by rw [HX.out, HZE.out]; exact h); exact h82 (by rw [HX.out, HZE.out]; exact h))]
            rfl)
          have q76 : ((x.toNat : Int) == 76) = false := byte_ne (k := 76) (by decide) h76
          have q82 : ((x.toNat : Int) == 82) = false := byte_ne (k := 82) (by decide) h82
          clear h76 h82 hj
          go_upto_region 37 with fail
          go_big_quiet (fail)
          generalize hw2 : World.drewN wr _ = w2 at *
          have hon : Only b wr w2 := by rw [← hw2]; exact only_drewN (Only.refl _ _) _
          have HR := Lib.hid (show Row w2 b 62 (rdr s z) by rw [← hw2]; exact HR.out.drewN _)
          have HO := Lib.hid (HO.out.trans hon)
          clear hon hw2 f0 f1
          go_wp2_with fail
          exact hnext (by rw [HFIN.out, ← HZE.out]; exact HR.out) HO.out
    · have hji : ¬ (z : Int) < (s.size : Int) := by omega
      have HFIN : Hid (i + lrs s.data.toList i 26 = i + j) := Lib.hid (by
        rw [HLR.out, lrs_stop (fun h => by have h1 := h.1; rw [← Lib.size_eq] at h1; omega)]
        rfl)
      clear hzs hze hz hj
      go_upto_region 37 with fail
      go_big_quiet (fail)
      generalize hw2 : World.drewN wr _ = w2 at *
      have hon : Only b wr w2 := by rw [← hw2]; exact only_drewN (Only.refl _ _) _
      have HR := Lib.hid (show Row w2 b 62 (rdr s z) by rw [← hw2]; exact HR.out.drewN _)
      have HO := Lib.hid (HO.out.trans hon)
      clear hon hw2 f0 f1
      go_wp2_with fail
      exact hnext (by rw [HFIN.out, ← HZE.out]; exact HR.out) HO.out
end Pr
end Go.Proofs.YtgagophijmiceaaDoor
