/- WALK: the reader's rule: eight bits. -/
import Derived.Test.YtgagophijmiceaaDoorRuR1
namespace Go.Proofs.YtgagophijmiceaaDoor
set_option linter.unusedSimpArgs false
set_option linter.unusedVariables false
open Go.RowKit
namespace Pr
open Tld Mem Bl Pn Pw Rd

def rbox (K Bo S st ra : Int) (vs : Value) (tu : ByteArray) : List Value := [.int .i64 K, .int .i64 Bo, .int .i64 S, .int .i64 st, .int .i64 ra, vs, .string tu]
/-- The boxes of the walk that reads a rule. -/
structure RSt (w0 wr : World) (ob b : Nat) (K Bo S st ra : Int) (tu : ByteArray) (s : ByteArray) (i : Nat) (zs : List Int) (vs : Value) : Prop where
  q : Row wr ob 24 (rbox K Bo S st ra vs tu)
  r : Row wr b 62 (rdr s i)
  o : wr.ownsRow w0.heap.size 3 1 vs zs.length (zs.map (Value.int .i64))
  bl : Below b w0 wr
  sz : w0.heap.size ≤ wr.heap.size
  ne : b < w0.heap.size ∧ w0.heap.size ≤ ob
/-- The same, whatever the slice. -/
def RStE (w0 wr : World) (ob b : Nat) (K Bo S st ra : Int) (tu : ByteArray) (s : ByteArray) (i : Nat) (zs : List Int) : Prop := ∃ vs, RSt w0 wr ob b K Bo S st ra tu s i zs vs
section
variable {w0 wr w2 : World} {ob b : Nat} {K Bo S st ra : Int} {tu s : ByteArray} {i : Nat} {zs : List Int} {vs : Value}
theorem RSt.keep (h : RSt w0 wr ob b K Bo S st ra tu s i zs vs) (hb : Below wr.heap.size wr w2) : RSt w0 w2 ob b K Bo S st ra tu s i zs vs :=
  ⟨h.q.keep hb h.q.lt, h.r.keep hb h.r.lt, own_keep h.o hb, h.bl.trans (hb.mono (Nat.le_of_lt h.r.lt)), Nat.le_trans h.sz hb.size, h.ne⟩
theorem RSt.drew (h : RSt w0 wr ob b K Bo S st ra tu s i zs vs) : RSt w0 wr.drew ob b K Bo S st ra tu s i zs vs := h.keep (Below.refl _ _).drew
/-- The reader has gone on. -/
theorem RSt.read {j : Nat} (h : RSt w0 wr ob b K Bo S st ra tu s i zs vs) (ho : Only b wr w2) (hr : Row w2 b 62 (rdr s j)) : RSt w0 w2 ob b K Bo S st ra tu s j zs vs :=
  ⟨h.q.other ho (by have := h.ne; omega), hr, own_only h.o ho (own_ne h.o h.r (by decide)), h.bl.trans (ho.below (Nat.le_refl _)), by rw [ho.size]; exact h.sz, h.ne⟩
theorem RSt.after (h : RSt w0 wr ob b K Bo S st ra tu s i zs vs) (hg : wr.grownBy w2 vs.ownBlock) : Row w2 ob 24 (rbox K Bo S st ra vs tu) ∧ Row w2 b 62 (rdr s i) ∧ Below b w0 w2 ∧ w0.heap.size ≤ w2.heap.size :=
  ⟨row_grown h.o hg h.q (by decide), row_grown h.o hg h.r (by decide), h.bl.grown hg (Nat.le_of_lt h.r.lt) (fun k hk => by have := own_low h.o k hk; have := h.ne; omega), Nat.le_trans h.sz hg.size⟩
theorem RSt.push {vs' : Value} {x : Int} (h : RSt w0 wr ob b K Bo S st ra tu s i zs vs) (hg : wr.grownBy w2 vs.ownBlock) (ho : w2.ownsRow w0.heap.size 3 1 vs' (zs.length + 1) (zs.map (Value.int .i64) ++ [.int .i64 x])) :
    RSt w0 (w2.setCell ⟨ob, 5, none⟩ vs') ob b K Bo S st ra tu s i (zs ++ [x]) vs' := by
  obtain ⟨hq, hr, hb, hs⟩ := h.after hg
  have ho9 := only_setCell w2 ob 5 vs'
  refine ⟨hq.set 5 _, hr.other ho9 (by have := h.ne; omega), ?_, hb.trans (ho9.below (by have := h.ne; omega)), by rw [ho9.size]; exact hs, h.ne⟩
  have e : (zs ++ [x]).map (Value.int .i64) = zs.map (Value.int .i64) ++ [.int .i64 x] := by rw [List.map_append]; rfl
  rw [e, List.length_append]
  exact own_only ho ho9 (own_ne ho hq (by decide))
end
theorem and_fin : ∀ v : Fin 512, bits .and .i64 (v.val : Int) 1 = ((v.val % 2 : Nat) : Int) := by decide +kernel
theorem bitsL_succ (n k : Nat) : bitsL n (k + 1) = bitsL n k ++ [((n / 2 ^ k % 2 : Nat) : Int)] := by simp [bitsL, List.range_succ]
theorem bitsL_len (n k : Nat) : (bitsL n k).length = k := by simp [bitsL]
theorem digL_succ (l : List UInt8) (i k : Nat) : digL l i (k + 1) = digL l i k ++ [((l.getD (i + k) 0).toNat : Int) - 48] := by simp [digL, List.range_succ]
theorem digL_len (l : List UInt8) (i k : Nat) : (digL l i k).length = k := by simp [digL]
set_option maxHeartbeats 8000000 in
set_option maxRecDepth 1000000 in
theorem ru_bits (w0 w : World) (s : ByteArray) (ob b i n : Nat) (K Bo S st ra : Int) (tu : ByteArray) (vs0 : Value) (hn : n < 512) (hT : RSt w0 w ob b K Bo S st ra tu s (i) ([]) vs0)
    (c0 c1 c4 c5 c6 c7 c8 c9 c10 c11 c12 c13 c14 c15 c16 c17 c18 c19 c20 c21 c22 c23 c24 c25 c26 c27 c28 c29 c30 c31 c32 c33 c34 c35 c36 c37 c38 c39 c40 c41 c42 c43 c44 c45 c46 c47 c49 c50 c51 c52 c53 c54 c55 c56 c57 c58 c59 c60 c61 c62 c63 c64 c65 c66 c67 c68 c69 c70 c71 c72 c73 c74 c75 c76 c77 c78 c79 c80 c81 c82 c83 c84 c85 c86 c87 c88 c89 c90 c91 c92 c93 c94 c95 c96 c97 c98 c99 c100 c101 c102 c103 c104 c105 c106 c107 c108 c109 c110 c111 c112 c113 c114 c115 c116 c117 c118 c119 c120 c121 c122 c123 c124 c125 c126 c127 c128 c129 c130 c131 c132 c133 c134 c135 c136 c137 c138 c139 c140 c141 c142 c143 c144 c145 c146 c147 c148 c149 c150 c151 c152 c153 c154 c155 c156 c157 c158 c159 c160 c161 c162 c163 c164 c165 c166 c167 c168 c169 c170 c171 c172 c173 c174 c175 c176 c177 c178 c179 c180 c181 c182 c183 c184 c185 c186 c187 c188 c189 c190 c191 c192 c193 c194 c195 c196 c197 c198 c199 c200 c201 c202 c203 c204 c205 c206 c207 c208 c209 c210 c211 c212 c213 c214 c215 c216 c217 c218 c219 c220 c221 c222 c223 c224 c225 c226 c227 c228 c229 c230 c231 c232 c233 c234 c235 c236 c237 c238 c239 c240 c241 c242 c243 c244 c245 c246 c247 c248 c249 c250 c251 c252 c253 c254 c255 c256 c257 c258 : Value) (Q : Exit → Act → World → Prop)
    (hnext : ∀ {u4 u49 u50 u51 u52 u53 u54 u55 u56 u57 u58 u59 u60 : Value} {w' : World}, RStE w0 w' ob b K Bo S st ra tu s i (bitsL n 8) → Q .normal ⟨#[c0, c1, .pointer (some ⟨ob, 0, none⟩), .int .i64 ((n : Nat) : Int), u4, c5, c6, c7, c8, c9, c10, c11, c12, c13, c14, c15, c16, c17, c18, c19, c20, c21, c22, c23, c24, c25, c26, c27, c28, c29, c30, c31, c32, c33, c34, c35, c36, c37, c38, c39, c40, c41, c42, c43, c44, c45, c46, c47, .int .i64 8, u49, u50, u51, u52, u53, u54, u55, u56, u57, u58, u59, u60, c61, c62, c63, c64, c65, c66, c67, c68, c69, c70, c71, c72, c73, c74, c75, c76, c77, c78, c79, c80, c81, c82, c83, c84, c85, c86, c87, c88, c89, c90, c91, c92, c93, c94, c95, c96, c97, c98, c99, c100, c101, c102, c103, c104, c105, c106, c107, c108, c109, c110, c111, c112, c113, c114, c115, c116, c117, c118, c119, c120, c121, c122, c123, c124, c125, c126, c127, c128, c129, c130, c131, c132, c133, c134, c135, c136, c137, c138, c139, c140, c141, c142, c143, c144, c145, c146, c147, c148, c149, c150, c151, c152, c153, c154, c155, c156, c157, c158, c159, c160, c161, c162, c163, c164, c165, c166, c167, c168, c169, c170, c171, c172, c173, c174, c175, c176, c177, c178, c179, c180, c181, c182, c183, c184, c185, c186, c187, c188, c189, c190, c191, c192, c193, c194, c195, c196, c197, c198, c199, c200, c201, c202, c203, c204, c205, c206, c207, c208, c209, c210, c211, c212, c213, c214, c215, c216, c217, c218, c219, c220, c221, c222, c223, c224, c225, c226, c227, c228, c229, c230, c231, c232, c233, c234, c235, c236, c237, c238, c239, c240, c241, c242, c243, c244, c245, c246, c247, c248, c249, c250, c251, c252, c253, c254, c255, c256, c257, c258], []⟩ w')
    : Code.wp Tryd.prog ((Pc.blk 1 (Tryd.f30.body.getD .skip)).getD .skip) Q ⟨#[c0, c1, .pointer (some ⟨ob, 0, none⟩), .int .i64 ((n : Nat) : Int), c4, c5, c6, c7, c8, c9, c10, c11, c12, c13, c14, c15, c16, c17, c18, c19, c20, c21, c22, c23, c24, c25, c26, c27, c28, c29, c30, c31, c32, c33, c34, c35, c36, c37, c38, c39, c40, c41, c42, c43, c44, c45, c46, c47, .int .i64 0, c49, c50, c51, c52, c53, c54, c55, c56, c57, c58, c59, c60, c61, c62, c63, c64, c65, c66, c67, c68, c69, c70, c71, c72, c73, c74, c75, c76, c77, c78, c79, c80, c81, c82, c83, c84, c85, c86, c87, c88, c89, c90, c91, c92, c93, c94, c95, c96, c97, c98, c99, c100, c101, c102, c103, c104, c105, c106, c107, c108, c109, c110, c111, c112, c113, c114, c115, c116, c117, c118, c119, c120, c121, c122, c123, c124, c125, c126, c127, c128, c129, c130, c131, c132, c133, c134, c135, c136, c137, c138, c139, c140, c141, c142, c143, c144, c145, c146, c147, c148, c149, c150, c151, c152, c153, c154, c155, c156, c157, c158, c159, c160, c161, c162, c163, c164, c165, c166, c167, c168, c169, c170, c171, c172, c173, c174, c175, c176, c177, c178, c179, c180, c181, c182, c183, c184, c185, c186, c187, c188, c189, c190, c191, c192, c193, c194, c195, c196, c197, c198, c199, c200, c201, c202, c203, c204, c205, c206, c207, c208, c209, c210, c211, c212, c213, c214, c215, c216, c217, c218, c219, c220, c221, c222, c223, c224, c225, c226, c227, c228, c229, c230, c231, c232, c233, c234, c235, c236, c237, c238, c239, c240, c241, c242, c243, c244, c245, c246, c247, c248, c249, c250, c251, c252, c253, c254, c255, c256, c257, c258], []⟩ w := by
  conv => arg 2; whnf
  have HNB := Lib.hid hn
  have HT := Lib.hid hT
  clear hn hT
  go_wp2_with fail
  go_loopw [48] (fun v wx => ∃ (j : Nat) (vs : Value), v = .int .i64 ((j : Nat) : Int) ∧ j ≤ 8 ∧ RSt w0 wx ob b K Bo S st ra tu s (i) (bitsL n j) vs) (fun v _ => 8 - (RowKit.intOf v).toNat)
  case atStart => exact ⟨0, vs0, rfl, by decide, HT.out⟩
  case round =>
    clear HT
    obtain ⟨j, vs, rfl, hj, ht⟩ := hrel
    have HT := Lib.hid ht
    clear ht
    by_cases hj8 : j < 8
    · have hji : (j : Int) < 8 := by omega
      have HJ8 : Hid (j + 1 ≤ 8) := Lib.hid hj8
      have E1 : Hid (wrap64 ((j : Int) + 1) = ((j + 1 : Nat) : Int)) := Lib.hid (wr_nat (by push_cast; rfl) (by omega))
      have hsh : (n : Int) / 2 ^ j = ((n / 2 ^ j : Nat) : Int) := by
        push_cast
        rfl
      obtain ⟨q, hq⟩ : ∃ q, q = n / 2 ^ j := ⟨_, rfl⟩
      rw [← hq] at hsh
      have hqb : q < 512 := by rw [hq]; exact Nat.lt_of_le_of_lt (Nat.div_le_self _ _) HNB.out
      obtain ⟨t, ht⟩ : ∃ t, t = q % 2 := ⟨_, rfl⟩
      have hand : bits .and .i64 ((q : Nat) : Int) 1 = ((t : Nat) : Int) := by rw [ht]; exact and_fin ⟨q, hqb⟩
      have HNX : Hid (bitsL n (j + 1) = bitsL n j ++ [((t : Nat) : Int)]) := Lib.hid (by rw [bitsL_succ, ht, hq])
      have HLN : Hid ((bitsL n j).length = j) := Lib.hid (bitsL_len n j)
      have HK2 : Hid (j ≤ 1000000) := Lib.hid (by omega)
      clear hq hqb ht hj hj8
      go_upto_region 16 with fail
      have HTd := Lib.hid HT.out.drew
      clear HT
      refine wp_region_noPanic ?_
      refine Rt.region_Cn (Sc2 (fun w2 => True) (fun w2 => w2.cell? ⟨ob, 5, none⟩ = some vs) 9) 10 #[false, false, false, false, false, false, false, false, false, false] (by kernel_rfl) (by kernel_rfl) (by kernel_rfl) ?_
      have hS1 : ∀ o, Sc2 (fun w2 => True) (fun w2 => w2.cell? ⟨ob, 5, none⟩ = some vs) 9 o wr.drew := Sc2.of trivial (HTd.out.q.cell 5)
      refine Rt.C_take (none) (i := 0) (oi := _) (v := ?_) rfl (by kernel_rfl) (by kernel_rfl) (by kernel_rfl) (by kernel_rfl) (fun _ _ _ h => h) (Sc2.other (by decide)) (Or.inl ⟨by rfl, ?_⟩) (fun o' _ => hS1 o') ?_
      rotate_left
      · intro w2 hSw
        
        go_simp
        try with_reducible rfl
      simp only [Act.put, List.getElem_toArray, List.getElem_cons_succ, List.getElem_cons_zero, List.setIfInBounds_toArray, List.set_cons_zero, List.set_cons_succ]
      refine Rt.C_take (some 9) (i := 1) (oi := _) (v := ?_) rfl (by kernel_rfl) (by kernel_rfl) (by kernel_rfl) (by kernel_rfl) (fun _ _ _ h => h) (Sc2.other (by decide)) (Or.inl ⟨by rfl, ?_⟩) (fun o' _ => hS1 o') ?_
      rotate_left
      · intro w2 hSw
        have s0 := hSw rfl
        go_simp
        try with_reducible rfl
      simp only [Act.put, List.getElem_toArray, List.getElem_cons_succ, List.getElem_cons_zero, List.setIfInBounds_toArray, List.set_cons_zero, List.set_cons_succ]
      refine Rt.C_take (none) (i := 2) (oi := _) (v := ?_) rfl (by kernel_rfl) (by kernel_rfl) (by kernel_rfl) (by kernel_rfl) (fun _ _ _ h => h) (Sc2.other (by decide)) (Or.inl ⟨by rfl, ?_⟩) (fun o' _ => hS1 o') ?_
      rotate_left
      · intro w2 hSw
        
        go_simp
        try with_reducible rfl
      simp only [Act.put, List.getElem_toArray, List.getElem_cons_succ, List.getElem_cons_zero, List.setIfInBounds_toArray, List.set_cons_zero, List.set_cons_succ]
      refine Rt.C_take (none) (i := 3) (oi := _) (v := ?_) rfl (by kernel_rfl) (by kernel_rfl) (by kernel_rfl) (by kernel_rfl) (fun _ _ _ h => h) (Sc2.other (by decide)) (Or.inl ⟨by rfl, ?_⟩) (fun o' _ => hS1 o') ?_
      rotate_left
      · intro w2 hSw
        
        go_simp
        try with_reducible rfl
      simp only [Act.put, List.getElem_toArray, List.getElem_cons_succ, List.getElem_cons_zero, List.setIfInBounds_toArray, List.set_cons_zero, List.set_cons_succ]
      refine Rt.C_take (none) (i := 4) (oi := _) (v := (.int .i64 ((q : Nat) : Int))) rfl (by kernel_rfl) (by kernel_rfl) (by kernel_rfl) (by kernel_rfl) (fun _ _ _ h => h) (Sc2.other (by decide)) (Or.inl ⟨by rfl, ?_⟩) (fun o' _ => hS1 o') ?_
      · intro w2 hSw
        
        go_simp
        try with_reducible rfl
      simp only [Act.put, List.getElem_toArray, List.getElem_cons_succ, List.getElem_cons_zero, List.setIfInBounds_toArray, List.set_cons_zero, List.set_cons_succ]
      refine Rt.C_take (none) (i := 5) (oi := _) (v := (.int .i64 ((t : Nat) : Int))) rfl (by kernel_rfl) (by kernel_rfl) (by kernel_rfl) (by kernel_rfl) (fun _ _ _ h => h) (Sc2.other (by decide)) (Or.inl ⟨by rfl, ?_⟩) (fun o' _ => hS1 o') ?_
      · intro w2 hSw
        
        go_simp
        try with_reducible rfl
      simp only [Act.put, List.getElem_toArray, List.getElem_cons_succ, List.getElem_cons_zero, List.setIfInBounds_toArray, List.set_cons_zero, List.set_cons_succ]
      clear hS1
      refine Rt.C_ready (rs := [6]) (by kernel_rfl) (by simp) ?_
      refine Rt.AllC.cons (i := 6) (o := _) rfl (by rfl) (fun K' hK => ?_) ?_
      · skip
        have hnew := row_alloc wr.drew 3 [.int .i64 ((t : Nat) : Int)]
        have hbn : Below wr.drew.heap.size wr.drew (wr.drew.alloc (.cells [.int .i64 ((t : Nat) : Int)].toArray 3)) := (Below.refl _ _).alloc (Nat.le_refl _) _
        have HTa := Lib.hid (HTd.out.keep hbn)
        have HCEL := Lib.hid (hnew.cell 0)
        clear hnew hbn HTd
        go_simp
        refine hK _ _ (fun o _ => Sc2.of trivial (HTa.out.q.cell 5) o) ?_
        clear hK K'
        simp only [Act.put, List.getElem_toArray, List.getElem_cons_succ, List.getElem_cons_zero, List.setIfInBounds_toArray, List.set_cons_zero, List.set_cons_succ]
        refine Rt.C_ready (rs := [7]) (by kernel_rfl) (by simp) ?_
        refine Rt.AllC.cons (i := 7) (o := _) rfl (by rfl) (fun K' hK => ?_) ?_
        · skip
          refine wp_app_ints _ _ rfl w0.heap.size vs (j) (bitsL n j) (by rfl) (by have h := HTa.out.o; rw [HLN.out] at h; exact h) wr.drew.heap.size 0 1 1 [((t : Nat) : Int)] (by rfl) rfl ?c1 HK2.out (by decide) (by decide) HTa.out.sz ?_
          case c1 =>
            intro j' hj'
            obtain rfl : j' = 0 := by omega
            exact HCEL.out
          intro g7 c7 w7 ho7 hg7
          rw [List.map_append] at ho7
          have HPU := Lib.hid (HTa.out.push (x := ((t : Nat) : Int)) hg7 (by rw [HLN.out]; exact ho7))
          have HM7 := Lib.hid (HTa.out.after hg7)
          clear ho7 hg7 HTa HCEL
          refine hK _ _ (fun o _ => Sc2.of trivial (HM7.out.1.cell 5) o) ?_
          clear hK K'
          simp only [Act.put, List.getElem_toArray, List.getElem_cons_succ, List.getElem_cons_zero, List.setIfInBounds_toArray, List.set_cons_zero, List.set_cons_succ]
          refine Rt.C_take (none) (i := 8) (oi := _) (v := ?_) rfl (by kernel_rfl) (by kernel_rfl) (by kernel_rfl) (by kernel_rfl) (fun _ _ _ h => h) (Sc2.other (by decide)) (Or.inl ⟨by rfl, ?_⟩) (fun o _ => Sc2.of trivial (HM7.out.1.cell 5) o) ?_
          rotate_left
          · intro w2 hSw
            
            go_simp
            try with_reducible rfl
          simp only [Act.put, List.getElem_toArray, List.getElem_cons_succ, List.getElem_cons_zero, List.setIfInBounds_toArray, List.set_cons_zero, List.set_cons_succ]
          refine Rt.C_ready (rs := [9]) (by kernel_rfl) (by simp) ?_
          refine Rt.AllC.cons (i := 9) (o := _) rfl (by rfl) (fun K' hK => ?_) ?_
          · skip
            have c2 := HM7.out.1.cell 5
            have z2 := HM7.out.1.frozen 5
            unfold rbox at c2
            dsimp only [List.getElem?_cons_succ, List.getElem?_cons_zero] at c2
            go_simp
            refine hK _ _ (fun o hl => Sc2.late trivial (by rfl) o hl) ?_
            clear hK K'
            simp only [Act.put, List.getElem_toArray, List.getElem_cons_succ, List.getElem_cons_zero, List.setIfInBounds_toArray, List.set_cons_zero, List.set_cons_succ]
            refine Rt.C_done (by kernel_rfl) ?_ _
            refine NoPanic.normal ?_
            clear c2 z2 HM7 hsh hand
            generalize w7.setCell ⟨ob, 5, none⟩ (.slice (some ⟨g7, 0, none⟩) (j + 1) c7) = w9 at *
            go_wp2_with fail
            go_roundw
            case rel => exact ⟨j + 1, _, rfl, HJ8.out, by rw [HNX.out]; exact HPU.out⟩
            case measure => exact meas (b := j + 1) rfl (by have := HJ8.out; omega)
          exact Rt.AllC.nil
        exact Rt.AllC.nil
      exact Rt.AllC.nil
    · obtain rfl : j = 8 := by omega
      have hji : ¬ ((8 : Nat) : Int) < 8 := by omega
      go_wp2_with fail
      exact ⟨vs, HT.out⟩
end Pr
end Go.Proofs.YtgagophijmiceaaDoor
