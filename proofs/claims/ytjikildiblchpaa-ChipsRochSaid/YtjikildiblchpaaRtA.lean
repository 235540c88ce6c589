/- WALK: rotor.newBoard: two places' ways grow in one statement, in whatever order Go takes. -/
import Derived.Test.YtjikildiblchpaaGfO
import Derived.Test.YtjikildiblchpaaRtO
import Derived.Test.YtjikildiblchpaaPc
import Derived.Maps.AppendAt
import Derived.Deep.RegionHeld3
namespace Go.Proofs.Ytjikildiblchpaa
set_option linter.unusedSimpArgs false
set_option linter.unusedVariables false
open Go.RowKit Go.Lib
namespace Rt
open Tld Mem

/-- Region n, alone. -/
def regn (n : Nat) : Code → Option Code
  | .region i o d => match i == n with
    | true => some (.region i o d)
    | false => none
  | .seq a b => match regn n a with
    | some c => some c
    | none => regn n b
  | .cond _ a b => match regn n a with
    | some c => some c
    | none => regn n b
  | .block _ c => regn n c
  | .scope c => regn n c
  | .loop c => regn n c
  | _ => none
/-- All else stands as it stood. -/
structure Chg (X : Nat → Prop) (w w' : World) : Prop where
  os : w'.os = w.os
  tape : w'.tape = w.tape
  output : w'.output = w.output
  size : w.heap.size ≤ w'.heap.size
  block : ∀ k, k < w.heap.size → ¬ X k → w'.heap[k]? = w.heap[k]?
theorem Chg.refl {X : Nat → Prop} {w : World} : Chg X w w := ⟨rfl, rfl, rfl, Nat.le_refl _, fun _ _ _ => rfl⟩
theorem Chg.trans {X Y : Nat → Prop} {u v w : World} (h : Chg X u v) (k : Chg Y v w) (hy : ∀ b, b < u.heap.size → Y b → X b) : Chg X u w :=
  ⟨k.os.trans h.os, k.tape.trans h.tape, k.output.trans h.output, Nat.le_trans h.size k.size, fun b hb hx => (k.block b (Nat.lt_of_lt_of_le hb h.size) (fun y => hx (hy b hb y))).trans (h.block b hb hx)⟩
theorem Chg.below {X : Nat → Prop} {w w' : World} (h : Below w.heap.size w w') : Chg X w w' := ⟨h.os, h.tape, h.output, h.size, fun k hk _ => h.block k hk⟩
theorem Chg.grown {w w' : World} {v : Value} (h : w.grownBy w' v.ownBlock) : Chg (fun k => v.ownBlock = some k) w w' := ⟨h.os, h.tape, h.output, h.size, fun k hk hx => h.block k hk (fun e => hx e.symm)⟩
theorem Chg.only {b : Nat} {w w' : World} (h : Only b w w') : Chg (fun k => k = b) w w' := ⟨h.os, h.tape, h.output, Nat.le_of_eq h.size.symm, fun k hk hx => h.block k hx⟩
/-- A value's block is another's, or new. -/
def Loc (w : World) (v v' : Value) : Prop := v'.ownBlock = v.ownBlock ∨ ∃ b, v'.ownBlock = some b ∧ w.heap.size ≤ b
theorem Loc.refl {w : World} {v : Value} : Loc w v v := .inl rfl
theorem Loc.next {w u : World} {v v' v'' : Value} (h : Loc w v v') (hs : w.heap.size ≤ u.heap.size) (k : v''.ownBlock = v'.ownBlock ∨ v''.ownBlock = some u.heap.size) : Loc w v v'' := by
  rcases k with k | k
  · rcases h with h | ⟨b, h, hb⟩
    · exact .inl (k.trans h)
    · exact .inr ⟨b, k.trans h, hb⟩
  · exact .inr ⟨_, k, hs⟩
/-- Two slices of the call's own, on the way. -/
structure Two (w0 w : World) (B bw : Nat) (vA0 vC0 vA vC : Value) (nA nC : Nat) (xA xC : List Value) : Prop where
  a : w.ownsRow B 3 1 vA nA xA
  c : w.ownsRow B 3 1 vC nC xC
  dis : ∀ b, vA.ownBlock = some b → vC.ownBlock ≠ some b
  la : Loc w0 vA0 vA
  lc : Loc w0 vC0 vC
  chg : Chg (fun k => k = bw ∨ vA0.ownBlock = some k ∨ vC0.ownBlock = some k) w0 w
theorem Two.below {w0 w w' : World} {B bw : Nat} {vA0 vC0 vA vC : Value} {nA nC : Nat} {xA xC : List Value} (h : Two w0 w B bw vA0 vC0 vA vC nA nC xA xC) (hb : Below w.heap.size w w') : Two w0 w' B bw vA0 vC0 vA vC nA nC xA xC :=
  ⟨own_keep h.a hb, own_keep h.c hb, h.dis, h.la, h.lc, h.chg.trans (Chg.below (X := fun _ => False) hb) fun _ _ h => h.elim⟩
theorem row_ne {w : World} {b c : Nat} {T U : TypeId} {xs ys : List Value} (h : Row w b T xs) (k : Row w c U ys) (hne : T ≠ U) : b ≠ c := fun e => by
  subst e
  unfold Row at h k
  rw [h] at k
  simp only [Option.some.injEq, Obj.cells.injEq] at k
  exact hne k.2.1
theorem Two.only {w0 w w' : World} {B bw : Nat} {vA0 vC0 vA vC : Value} {nA nC : Nat} {xA xC : List Value} {T : TypeId} {xs : List Value} (h : Two w0 w B bw vA0 vC0 vA vC nA nC xA xC) (ho : Only bw w w') (hR : Row w bw T xs) (hT : T ≠ 3) : Two w0 w' B bw vA0 vC0 vA vC nA nC xA xC :=
  ⟨own_only h.a ho (own_ne h.a hR hT), own_only h.c ho (own_ne h.c hR hT), h.dis, h.la, h.lc, h.chg.trans (Chg.only ho) fun b _ e => .inl e⟩
theorem Two.swap {w0 w : World} {B bw : Nat} {vA0 vC0 vA vC : Value} {nA nC : Nat} {xA xC : List Value} (h : Two w0 w B bw vA0 vC0 vA vC nA nC xA xC) : Two w0 w B bw vC0 vA0 vC vA nC nA xC xA :=
  ⟨h.c, h.a, fun b h1 h2 => h.dis b h2 h1, h.lc, h.la, ⟨h.chg.os, h.chg.tape, h.chg.output, h.chg.size, fun k hk hx => h.chg.block k hk fun y => hx (y.elim .inl fun z => .inr (z.elim .inr .inl))⟩⟩
theorem Two.app {w0 w w' : World} {B bw : Nat} {vA0 vC0 vA vC v : Value} {nA nC n : Nat} {xA xC x : List Value} (h : Two w0 w B bw vA0 vC0 vA vC nA nC xA xC)
    (ho : w'.ownsRow B 3 1 v n x) (hg : w.grownBy w' vA.ownBlock) (hl : v.ownBlock = vA.ownBlock ∨ v.ownBlock = some w.heap.size) : Two w0 w' B bw vA0 vC0 v vC n nC x xC := by
  have hne : vC.ownBlock = none ∨ vC.ownBlock ≠ vA.ownBlock := by
    cases hv : vC.ownBlock with
    | none => exact .inl rfl
    | some b => exact .inr fun e => h.dis b e.symm hv
  refine ⟨ho, h.c.kept hg hne, fun b hb => ?_, h.la.next h.chg.size hl, h.lc, h.chg.trans (Chg.grown hg) fun b hb hy => ?_⟩
  · rcases hl with hl | hl
    · exact h.dis b (by rw [← hl]; exact hb)
    · intro hc
      have h1 := (h.c.lt b hc).2
      rw [hl] at hb
      cases hb
      exact Nat.lt_irrefl _ h1
  · rcases h.la with hla | ⟨b', hla, hb'⟩
    · exact .inr (.inl (by rw [← hla]; exact hy))
    · have hy' : vA.ownBlock = some b := hy
      rw [hla] at hy'
      cases hy'
      omega
/-- What is known while the statement goes on. -/
def S14 (bb bw b13 P a c : Nat) (vA vC : Value) : Option Nat → World → Prop
  | none, w => w.cell? ⟨bb, 1, none⟩ = some (.slice (some ⟨bw, 0, none⟩) P P) ∧ w.cell? ⟨b13, 0, none⟩ = some (.int .i64 (a : Int)) ∧ w.cell? ⟨b13, 1, none⟩ = some (.int .i64 (c : Int))
  | some k, w => (k = 23 → w.cell? ⟨bw, a, none⟩ = some vA) ∧ (k = 35 → w.cell? ⟨bw, c, none⟩ = some vC)
theorem S14.other {bb bw b13 P a c : Nat} {vA vC : Value} {i : Nat} (h : i ≠ 23) (h2 : i ≠ 35) (w : World) : S14 bb bw b13 P a c vA vC (some i) w := ⟨fun e => absurd e h, fun e => absurd e h2⟩
theorem S14.of {bb bw b13 P a c : Nat} {vA vC : Value} {w : World} {LB LW : List Value} {tt : Int} (HBB : Row w bb 58 LB) (HLB : LB[1]? = some (.slice (some ⟨bw, 0, none⟩) P P)) (HE : Row w b13 27 [.int .i64 (a : Int), .int .i64 (c : Int), .int .i64 tt]) (HW : Row w bw 25 LW) (HLA : LW[a]? = some vA) (HLC : LW[c]? = some vC) (o : Option Nat) : S14 bb bw b13 P a c vA vC o w := by
  cases o with
  | none => exact ⟨(HBB.cell 1).trans HLB, HE.cell 0, HE.cell 1⟩
  | some k => exact ⟨fun _ => (HW.cell a).trans HLA, fun _ => (HW.cell c).trans HLC⟩
theorem S14.late {bb bw b13 P a c : Nat} {vA vC : Value} {w : World} {LB : List Value} {tt : Int} {listed : Array Bool} (HBB : Row w bb 58 LB) (HLB : LB[1]? = some (.slice (some ⟨bw, 0, none⟩) P P)) (HE : Row w b13 27 [.int .i64 (a : Int), .int .i64 (c : Int), .int .i64 tt]) (h23 : listed.getD 23 true = true) (h35 : listed.getD 35 true = true) (o : Option Nat) (hl : live o listed) : S14 bb bw b13 P a c vA vC o w := by
  cases o with
  | none => exact ⟨(HBB.cell 1).trans HLB, HE.cell 0, HE.cell 1⟩
  | some k =>
    have hl' : listed.getD k true = false := hl
    exact ⟨fun e => (by rw [e, h23] at hl'; cases hl'), fun e => (by rw [e, h35] at hl'; cases hl')⟩
theorem wp_append_at {P : Program} {o : Oper} {a : Act} {w : World} {K : Act → World → Prop} {Q : Exit → Act → World → Prop} (x y : Operand) (t : TypeId)
    (ho : o.op = .call { callee := .builtin .append, args := #[x, y], argTypes := #[t, t] })
    (B : Nat) (e : TypeId) (i : TypeInfo) (z : Value) (bytes : Nat) (ht : P.underlying t = some (.slice e)) (hi : P.info? e = some i) (hz : i.zero = some z) (hz1 : z.cells.size = 1) (hsize : i.size = 1) (hby : i.bytes = bytes)
    (v : Value) (n : Nat) (xs : List Value) (hs : a.eval x = v) (hown : w.ownsRow B e 1 v n xs) (ad : Addr) (c : Nat) (u : Value) (hy : a.eval y = .slice (some ad) 1 c) (hu : w.cell? ad = some u) (h1 : u.oneCell' = true)
    (h63 : n + 1 ≤ maxLen) (hbytes : (n + 1) * bytes ≤ 140737488355328) (hB : B ≤ w.heap.size)
    (hK : ∀ ao co w', w'.ownsRow B e 1 (.slice ao (n + 1) co) (n + 1) (xs ++ [u]) → w.grownBy w' v.ownBlock → (Value.ownBlock (.slice ao (n + 1) co) = v.ownBlock ∨ Value.ownBlock (.slice ao (n + 1) co) = some w.heap.size) → K (a.put o.dst (.slice ao (n + 1) co)) w') :
    Oper.wp P o a w K Q := by
  obtain ⟨v', w', hr, h2, h3, h4, h5⟩ := run_append_own_at (P := P) w B t o.type e i z 1 bytes ht hi hz hsize hby hz1 (by decide) v n xs hown ad 1 c [u] rfl (fun j q hj => by
    match j, hj with
    | 0, hj =>
      simp at hj; subst hj
      have : ad.add 0 = ad := by simp [Addr.add]
      rw [this]; exact hu
    | j + 1, hj => simp at hj) (fun q hq => by simp at hq; subst hq; exact h1) h63 hbytes hB
  unfold Oper.wp execOp
  simp only [ho, resolve, invoke, builtin, Sem.run_bind, Sem.run_pure, Result.andThen_ok, List.map_toArray, List.map_cons, List.map_nil, hs, hy, hr]
  rcases h2.2 with ⟨_, h0⟩ | ⟨g, cap, cur, hv, _⟩
  · omega
  · subst hv
    exact hK _ _ _ h2 h3 h5
set_option maxHeartbeats 16000000 in
set_option maxRecDepth 1000000 in
theorem app2 (bb bw b13 P a c : Nat) (vA vC : Value) (nA nC : Nat) (xA xC : List Value) (B : Nat) (LB LW : List Value) (tt : Int) (w : World) (hac : a ≠ c) (haP : a < P) (hcP : c < P) (hnA : nA ≤ 100000) (hnC : nC ≤ 100000) (hB : B ≤ w.heap.size)
    (HBB : Hid (Row w bb 58 LB)) (HLB : Hid (LB[1]? = some (.slice (some ⟨bw, 0, none⟩) P P))) (HE : Hid (Row w b13 27 [.int .i64 (a : Int), .int .i64 (c : Int), .int .i64 tt])) (HW : Hid (Row w bw 25 LW)) (HLA : Hid (LW[a]? = some vA)) (HLC : Hid (LW[c]? = some vC))
    (HT : Hid (Two w w B bw vA vC vA vC nA nC xA xC))
    (c0 c1 c2 c3 c4 c5 c6 c7 c8 c9 c10 c12 c14 c15 c16 c17 c18 c19 c20 c21 c22 c23 c24 c25 c26 c27 c28 c29 c30 c31 c32 c33 c34 c35 c36 c37 c38 c39 c40 c41 c42 c43 c44 c45 c46 c47 c48 c49 c50 c51 c52 c53 c54 c55 c56 c57 c58 c59 c60 c61 c62 c63 c64 c65 c66 c67 c68 c69 c70 c71 c72 c73 c74 c75 c76 c77 c78 c79 c80 c81 c82 c83 c84 c85 c86 c87 c88 c89 c90 c91 c92 c93 c94 c95 c96 c97 c98 c99 c100 c101 c102 c103 c104 c105 c106 c107 c108 c109 c110 c111 c112 c113 c114 c115 c116 c117 c118 c119 c120 c121 c122 c123 c124 c125 c126 c127 c128 c129 c130 c131 c132 c133 c134 c135 c136 c137 c138 c139 c140 c141 c142 c143 c144 c145 c146 c147 c148 c149 c150 c151 : Value) (Q : Exit → Act → World → Prop)
    (hnext : ∀ {u64 u65 u66 u67 u68 u69 u70 u71 u72 u73 u74 u75 u76 u77 u78 u79 u80 u81 u82 u83 u84 u85 u86 u87 u88 u89 u90 u91 u92 u93 u94 u95 u96 u97 u98 u99 u100 u101 : Value} {w' : World} (vA' vC' : Value), Row w' bw 25 ((LW.set a vA').set c vC') → Two w w' B bw vA vC vA' vC' (nA + 1) (nC + 1) (xA ++ [.int .i64 (c : Int)]) (xC ++ [.int .i64 (a : Int)]) → Q .normal ⟨#[c0, c1, c2, c3, c4, c5, c6, c7, c8, c9, c10, .pointer (some ⟨bb, 0, none⟩), c12, .pointer (some ⟨b13, 0, none⟩), c14, c15, c16, c17, c18, c19, c20, c21, c22, c23, c24, c25, c26, c27, c28, c29, c30, c31, c32, c33, c34, c35, c36, c37, c38, c39, c40, c41, c42, c43, c44, c45, c46, c47, c48, c49, c50, c51, c52, c53, c54, c55, c56, c57, c58, c59, c60, c61, c62, c63, u64, u65, u66, u67, u68, u69, u70, u71, u72, u73, u74, u75, u76, u77, u78, u79, u80, u81, u82, u83, u84, u85, u86, u87, u88, u89, u90, u91, u92, u93, u94, u95, u96, u97, u98, u99, u100, u101, c102, c103, c104, c105, c106, c107, c108, c109, c110, c111, c112, c113, c114, c115, c116, c117, c118, c119, c120, c121, c122, c123, c124, c125, c126, c127, c128, c129, c130, c131, c132, c133, c134, c135, c136, c137, c138, c139, c140, c141, c142, c143, c144, c145, c146, c147, c148, c149, c150, c151], []⟩ w')
    : Code.wp Try.prog ((regn 14 (Try.f20.body.getD .skip)).getD .skip) (NoPanic Q) ⟨#[c0, c1, c2, c3, c4, c5, c6, c7, c8, c9, c10, .pointer (some ⟨bb, 0, none⟩), c12, .pointer (some ⟨b13, 0, none⟩), c14, c15, c16, c17, c18, c19, c20, c21, c22, c23, c24, c25, c26, c27, c28, c29, c30, c31, c32, c33, c34, c35, c36, c37, c38, c39, c40, c41, c42, c43, c44, c45, c46, c47, c48, c49, c50, c51, c52, c53, c54, c55, c56, c57, c58, c59, c60, c61, c62, c63, c64, c65, c66, c67, c68, c69, c70, c71, c72, c73, c74, c75, c76, c77, c78, c79, c80, c81, c82, c83, c84, c85, c86, c87, c88, c89, c90, c91, c92, c93, c94, c95, c96, c97, c98, c99, c100, c101, c102, c103, c104, c105, c106, c107, c108, c109, c110, c111, c112, c113, c114, c115, c116, c117, c118, c119, c120, c121, c122, c123, c124, c125, c126, c127, c128, c129, c130, c131, c132, c133, c134, c135, c136, c137, c138, c139, c140, c141, c142, c143, c144, c145, c146, c147, c148, c149, c150, c151], []⟩ w := by
  conv => arg 2; whnf
  have HBB := Lib.hid HBB.out.drew
  have HE := Lib.hid HE.out.drew
  have HW := Lib.hid HW.out.drew
  have HT := Lib.hid (HT.out.below (Below.refl _ _).drew)
  have hB : B ≤ w.drew.heap.size := hB
  obtain ⟨i0, hI0, hz0, hz1, hz2⟩ := info_parts infoIntN
  have HI0 := Lib.hid hI0
  have HZ0 := Lib.hid hz0
  have HZ1 := Lib.hid hz1
  have HZ2 := Lib.hid hz2
  clear hI0 hz0 hz1 hz2
  have ha2 : (a : Int) < (P : Int) := by omega
  have hc2 : (c : Int) < (P : Int) := by omega
  refine region_Cn (S14 bb bw b13 P a c vA vC) 40 #[false, false, false, false, false, false, false, false, false, false, false, false, false, false, false, false, false, false, false, false, false, false, false, false, false, false, false, false, false, false, false, false, false, false, false, false, false, false, false, false] (by kernel_rfl) (by kernel_rfl) (by kernel_rfl) ?_
  generalize w.drew = wd at *
  have hS : ∀ o, S14 bb bw b13 P a c vA vC o wd := S14.of HBB.out HLB.out HE.out HW.out HLA.out HLC.out
  refine C_take (none) (i := 0) (oi := _) (v := ?_) rfl (by kernel_rfl) (by kernel_rfl) (by kernel_rfl) (by kernel_rfl) (fun _ _ _ h => h) (S14.other (by decide) (by decide)) (Or.inl ⟨by rfl, ?_⟩) (fun o' _ => hS o') ?_
  rotate_left
  · intro w hSw
    obtain ⟨s1, s2, s3⟩ := hSw
    go_simp
    try with_reducible rfl
  simp only [Act.put, List.getElem_toArray, List.getElem_cons_succ, List.getElem_cons_zero, List.setIfInBounds_toArray, List.set_cons_zero, List.set_cons_succ]
  refine C_take (none) (i := 1) (oi := _) (v := ?_) rfl (by kernel_rfl) (by kernel_rfl) (by kernel_rfl) (by kernel_rfl) (fun _ _ _ h => h) (S14.other (by decide) (by decide)) (Or.inl ⟨by rfl, ?_⟩) (fun o' _ => hS o') ?_
  rotate_left
  · intro w hSw
    obtain ⟨s1, s2, s3⟩ := hSw
    go_simp
    try with_reducible rfl
  simp only [Act.put, List.getElem_toArray, List.getElem_cons_succ, List.getElem_cons_zero, List.setIfInBounds_toArray, List.set_cons_zero, List.set_cons_succ]
  refine C_take (none) (i := 2) (oi := _) (v := ?_) rfl (by kernel_rfl) (by kernel_rfl) (by kernel_rfl) (by kernel_rfl) (fun _ _ _ h => h) (S14.other (by decide) (by decide)) (Or.inl ⟨by rfl, ?_⟩) (fun o' _ => hS o') ?_
  rotate_left
  · intro w hSw
    obtain ⟨s1, s2, s3⟩ := hSw
    go_simp
    try with_reducible rfl
  simp only [Act.put, List.getElem_toArray, List.getElem_cons_succ, List.getElem_cons_zero, List.setIfInBounds_toArray, List.set_cons_zero, List.set_cons_succ]
  refine C_take (none) (i := 3) (oi := _) (v := ?_) rfl (by kernel_rfl) (by kernel_rfl) (by kernel_rfl) (by kernel_rfl) (fun _ _ _ h => h) (S14.other (by decide) (by decide)) (Or.inl ⟨by rfl, ?_⟩) (fun o' _ => hS o') ?_
  rotate_left
  · intro w hSw
    obtain ⟨s1, s2, s3⟩ := hSw
    go_simp
    try with_reducible rfl
  simp only [Act.put, List.getElem_toArray, List.getElem_cons_succ, List.getElem_cons_zero, List.setIfInBounds_toArray, List.set_cons_zero, List.set_cons_succ]
  refine C_take (none) (i := 4) (oi := _) (v := ?_) rfl (by kernel_rfl) (by kernel_rfl) (by kernel_rfl) (by kernel_rfl) (fun _ _ _ h => h) (S14.other (by decide) (by decide)) (Or.inl ⟨by rfl, ?_⟩) (fun o' _ => hS o') ?_
  rotate_left
  · intro w hSw
    obtain ⟨s1, s2, s3⟩ := hSw
    go_simp
    try with_reducible rfl
  simp only [Act.put, List.getElem_toArray, List.getElem_cons_succ, List.getElem_cons_zero, List.setIfInBounds_toArray, List.set_cons_zero, List.set_cons_succ]
  refine C_take (none) (i := 5) (oi := _) (v := ?_) rfl (by kernel_rfl) (by kernel_rfl) (by kernel_rfl) (by kernel_rfl) (fun _ _ _ h => h) (S14.other (by decide) (by decide)) (Or.inl ⟨by rfl, ?_⟩) (fun o' _ => hS o') ?_
  rotate_left
  · intro w hSw
    obtain ⟨s1, s2, s3⟩ := hSw
    go_simp
    try with_reducible rfl
  simp only [Act.put, List.getElem_toArray, List.getElem_cons_succ, List.getElem_cons_zero, List.setIfInBounds_toArray, List.set_cons_zero, List.set_cons_succ]
  refine C_take (none) (i := 6) (oi := _) (v := ?_) rfl (by kernel_rfl) (by kernel_rfl) (by kernel_rfl) (by kernel_rfl) (fun _ _ _ h => h) (S14.other (by decide) (by decide)) (Or.inl ⟨by rfl, ?_⟩) (fun o' _ => hS o') ?_
  rotate_left
  · intro w hSw
    obtain ⟨s1, s2, s3⟩ := hSw
    go_simp
    try with_reducible rfl
  simp only [Act.put, List.getElem_toArray, List.getElem_cons_succ, List.getElem_cons_zero, List.setIfInBounds_toArray, List.set_cons_zero, List.set_cons_succ]
  refine C_take (none) (i := 7) (oi := _) (v := ?_) rfl (by kernel_rfl) (by kernel_rfl) (by kernel_rfl) (by kernel_rfl) (fun _ _ _ h => h) (S14.other (by decide) (by decide)) (Or.inl ⟨by rfl, ?_⟩) (fun o' _ => hS o') ?_
  rotate_left
  · intro w hSw
    obtain ⟨s1, s2, s3⟩ := hSw
    go_simp
    try with_reducible rfl
  simp only [Act.put, List.getElem_toArray, List.getElem_cons_succ, List.getElem_cons_zero, List.setIfInBounds_toArray, List.set_cons_zero, List.set_cons_succ]
  refine C_take (none) (i := 8) (oi := _) (v := ?_) rfl (by kernel_rfl) (by kernel_rfl) (by kernel_rfl) (by kernel_rfl) (fun _ _ _ h => h) (S14.other (by decide) (by decide)) (Or.inl ⟨by rfl, ?_⟩) (fun o' _ => hS o') ?_
  rotate_left
  · intro w hSw
    obtain ⟨s1, s2, s3⟩ := hSw
    go_simp
    try with_reducible rfl
  simp only [Act.put, List.getElem_toArray, List.getElem_cons_succ, List.getElem_cons_zero, List.setIfInBounds_toArray, List.set_cons_zero, List.set_cons_succ]
  refine C_take (none) (i := 9) (oi := _) (v := ?_) rfl (by kernel_rfl) (by kernel_rfl) (by kernel_rfl) (by kernel_rfl) (fun _ _ _ h => h) (S14.other (by decide) (by decide)) (Or.inl ⟨by rfl, ?_⟩) (fun o' _ => hS o') ?_
  rotate_left
  · intro w hSw
    obtain ⟨s1, s2, s3⟩ := hSw
    go_simp
    try with_reducible rfl
  simp only [Act.put, List.getElem_toArray, List.getElem_cons_succ, List.getElem_cons_zero, List.setIfInBounds_toArray, List.set_cons_zero, List.set_cons_succ]
  refine C_take (none) (i := 10) (oi := _) (v := ?_) rfl (by kernel_rfl) (by kernel_rfl) (by kernel_rfl) (by kernel_rfl) (fun _ _ _ h => h) (S14.other (by decide) (by decide)) (Or.inl ⟨by rfl, ?_⟩) (fun o' _ => hS o') ?_
  rotate_left
  · intro w hSw
    obtain ⟨s1, s2, s3⟩ := hSw
    go_simp
    try with_reducible rfl
  simp only [Act.put, List.getElem_toArray, List.getElem_cons_succ, List.getElem_cons_zero, List.setIfInBounds_toArray, List.set_cons_zero, List.set_cons_succ]
  refine C_take (none) (i := 11) (oi := _) (v := ?_) rfl (by kernel_rfl) (by kernel_rfl) (by kernel_rfl) (by kernel_rfl) (fun _ _ _ h => h) (S14.other (by decide) (by decide)) (Or.inl ⟨by rfl, ?_⟩) (fun o' _ => hS o') ?_
  rotate_left
  · intro w hSw
    obtain ⟨s1, s2, s3⟩ := hSw
    go_simp
    try with_reducible rfl
  simp only [Act.put, List.getElem_toArray, List.getElem_cons_succ, List.getElem_cons_zero, List.setIfInBounds_toArray, List.set_cons_zero, List.set_cons_succ]
  refine C_take (none) (i := 12) (oi := _) (v := ?_) rfl (by kernel_rfl) (by kernel_rfl) (by kernel_rfl) (by kernel_rfl) (fun _ _ _ h => h) (S14.other (by decide) (by decide)) (Or.inl ⟨by rfl, ?_⟩) (fun o' _ => hS o') ?_
  rotate_left
  · intro w hSw
    obtain ⟨s1, s2, s3⟩ := hSw
    go_simp
    try with_reducible rfl
  simp only [Act.put, List.getElem_toArray, List.getElem_cons_succ, List.getElem_cons_zero, List.setIfInBounds_toArray, List.set_cons_zero, List.set_cons_succ]
  refine C_take (none) (i := 13) (oi := _) (v := ?_) rfl (by kernel_rfl) (by kernel_rfl) (by kernel_rfl) (by kernel_rfl) (fun _ _ _ h => h) (S14.other (by decide) (by decide)) (Or.inl ⟨by rfl, ?_⟩) (fun o' _ => hS o') ?_
  rotate_left
  · intro w hSw
    obtain ⟨s1, s2, s3⟩ := hSw
    go_simp
    try with_reducible rfl
  simp only [Act.put, List.getElem_toArray, List.getElem_cons_succ, List.getElem_cons_zero, List.setIfInBounds_toArray, List.set_cons_zero, List.set_cons_succ]
  refine C_take (none) (i := 14) (oi := _) (v := ?_) rfl (by kernel_rfl) (by kernel_rfl) (by kernel_rfl) (by kernel_rfl) (fun _ _ _ h => h) (S14.other (by decide) (by decide)) (Or.inl ⟨by rfl, ?_⟩) (fun o' _ => hS o') ?_
  rotate_left
  · intro w hSw
    obtain ⟨s1, s2, s3⟩ := hSw
    go_simp
    try with_reducible rfl
  simp only [Act.put, List.getElem_toArray, List.getElem_cons_succ, List.getElem_cons_zero, List.setIfInBounds_toArray, List.set_cons_zero, List.set_cons_succ]
  refine C_take (none) (i := 15) (oi := _) (v := ?_) rfl (by kernel_rfl) (by kernel_rfl) (by kernel_rfl) (by kernel_rfl) (fun _ _ _ h => h) (S14.other (by decide) (by decide)) (Or.inl ⟨by rfl, ?_⟩) (fun o' _ => hS o') ?_
  rotate_left
  · intro w hSw
    obtain ⟨s1, s2, s3⟩ := hSw
    go_simp
    try with_reducible rfl
  simp only [Act.put, List.getElem_toArray, List.getElem_cons_succ, List.getElem_cons_zero, List.setIfInBounds_toArray, List.set_cons_zero, List.set_cons_succ]
  refine C_take (none) (i := 16) (oi := _) (v := ?_) rfl (by kernel_rfl) (by kernel_rfl) (by kernel_rfl) (by kernel_rfl) (fun _ _ _ h => h) (S14.other (by decide) (by decide)) (Or.inl ⟨by rfl, ?_⟩) (fun o' _ => hS o') ?_
  rotate_left
  · intro w hSw
    obtain ⟨s1, s2, s3⟩ := hSw
    go_simp
    try with_reducible rfl
  simp only [Act.put, List.getElem_toArray, List.getElem_cons_succ, List.getElem_cons_zero, List.setIfInBounds_toArray, List.set_cons_zero, List.set_cons_succ]
  refine C_take (none) (i := 17) (oi := _) (v := ?_) rfl (by kernel_rfl) (by kernel_rfl) (by kernel_rfl) (by kernel_rfl) (fun _ _ _ h => h) (S14.other (by decide) (by decide)) (Or.inl ⟨by rfl, ?_⟩) (fun o' _ => hS o') ?_
  rotate_left
  · intro w hSw
    obtain ⟨s1, s2, s3⟩ := hSw
    go_simp
    try with_reducible rfl
  simp only [Act.put, List.getElem_toArray, List.getElem_cons_succ, List.getElem_cons_zero, List.setIfInBounds_toArray, List.set_cons_zero, List.set_cons_succ]
  refine C_take (none) (i := 18) (oi := _) (v := ?_) rfl (by kernel_rfl) (by kernel_rfl) (by kernel_rfl) (by kernel_rfl) (fun _ _ _ h => h) (S14.other (by decide) (by decide)) (Or.inl ⟨by rfl, ?_⟩) (fun o' _ => hS o') ?_
  rotate_left
  · intro w hSw
    obtain ⟨s1, s2, s3⟩ := hSw
    go_simp
    try with_reducible rfl
  simp only [Act.put, List.getElem_toArray, List.getElem_cons_succ, List.getElem_cons_zero, List.setIfInBounds_toArray, List.set_cons_zero, List.set_cons_succ]
  refine C_take (some 23) (i := 19) (oi := _) (v := ?_) rfl (by kernel_rfl) (by kernel_rfl) (by kernel_rfl) (by kernel_rfl) (fun _ _ _ h => h) (S14.other (by decide) (by decide)) (Or.inl ⟨by rfl, ?_⟩) (fun o' _ => hS o') ?_
  rotate_left
  · intro w hSw
    have s1 := hSw.1 rfl
    go_simp
    try with_reducible rfl
  simp only [Act.put, List.getElem_toArray, List.getElem_cons_succ, List.getElem_cons_zero, List.setIfInBounds_toArray, List.set_cons_zero, List.set_cons_succ]
  refine C_take (none) (i := 20) (oi := _) (v := ?_) rfl (by kernel_rfl) (by kernel_rfl) (by kernel_rfl) (by kernel_rfl) (fun _ _ _ h => h) (S14.other (by decide) (by decide)) (Or.inl ⟨by rfl, ?_⟩) (fun o' _ => hS o') ?_
  rotate_left
  · intro w hSw
    obtain ⟨s1, s2, s3⟩ := hSw
    go_simp
    try with_reducible rfl
  simp only [Act.put, List.getElem_toArray, List.getElem_cons_succ, List.getElem_cons_zero, List.setIfInBounds_toArray, List.set_cons_zero, List.set_cons_succ]
  refine C_take (none) (i := 21) (oi := _) (v := ?_) rfl (by kernel_rfl) (by kernel_rfl) (by kernel_rfl) (by kernel_rfl) (fun _ _ _ h => h) (S14.other (by decide) (by decide)) (Or.inl ⟨by rfl, ?_⟩) (fun o' _ => hS o') ?_
  rotate_left
  · intro w hSw
    obtain ⟨s1, s2, s3⟩ := hSw
    go_simp
    try with_reducible rfl
  simp only [Act.put, List.getElem_toArray, List.getElem_cons_succ, List.getElem_cons_zero, List.setIfInBounds_toArray, List.set_cons_zero, List.set_cons_succ]
  refine C_take (none) (i := 24) (oi := _) (v := ?_) rfl (by kernel_rfl) (by kernel_rfl) (by kernel_rfl) (by kernel_rfl) (fun _ _ _ h => h) (S14.other (by decide) (by decide)) (Or.inl ⟨by rfl, ?_⟩) (fun o' _ => hS o') ?_
  rotate_left
  · intro w hSw
    obtain ⟨s1, s2, s3⟩ := hSw
    go_simp
    try with_reducible rfl
  simp only [Act.put, List.getElem_toArray, List.getElem_cons_succ, List.getElem_cons_zero, List.setIfInBounds_toArray, List.set_cons_zero, List.set_cons_succ]
  refine C_take (none) (i := 25) (oi := _) (v := ?_) rfl (by kernel_rfl) (by kernel_rfl) (by kernel_rfl) (by kernel_rfl) (fun _ _ _ h => h) (S14.other (by decide) (by decide)) (Or.inl ⟨by rfl, ?_⟩) (fun o' _ => hS o') ?_
  rotate_left
  · intro w hSw
    obtain ⟨s1, s2, s3⟩ := hSw
    go_simp
    try with_reducible rfl
  simp only [Act.put, List.getElem_toArray, List.getElem_cons_succ, List.getElem_cons_zero, List.setIfInBounds_toArray, List.set_cons_zero, List.set_cons_succ]
  refine C_take (none) (i := 26) (oi := _) (v := ?_) rfl (by kernel_rfl) (by kernel_rfl) (by kernel_rfl) (by kernel_rfl) (fun _ _ _ h => h) (S14.other (by decide) (by decide)) (Or.inl ⟨by rfl, ?_⟩) (fun o' _ => hS o') ?_
  rotate_left
  · intro w hSw
    obtain ⟨s1, s2, s3⟩ := hSw
    go_simp
    try with_reducible rfl
  simp only [Act.put, List.getElem_toArray, List.getElem_cons_succ, List.getElem_cons_zero, List.setIfInBounds_toArray, List.set_cons_zero, List.set_cons_succ]
  refine C_take (none) (i := 27) (oi := _) (v := ?_) rfl (by kernel_rfl) (by kernel_rfl) (by kernel_rfl) (by kernel_rfl) (fun _ _ _ h => h) (S14.other (by decide) (by decide)) (Or.inl ⟨by rfl, ?_⟩) (fun o' _ => hS o') ?_
  rotate_left
  · intro w hSw
    obtain ⟨s1, s2, s3⟩ := hSw
    go_simp
    try with_reducible rfl
  simp only [Act.put, List.getElem_toArray, List.getElem_cons_succ, List.getElem_cons_zero, List.setIfInBounds_toArray, List.set_cons_zero, List.set_cons_succ]
  refine C_take (none) (i := 28) (oi := _) (v := ?_) rfl (by kernel_rfl) (by kernel_rfl) (by kernel_rfl) (by kernel_rfl) (fun _ _ _ h => h) (S14.other (by decide) (by decide)) (Or.inl ⟨by rfl, ?_⟩) (fun o' _ => hS o') ?_
  rotate_left
  · intro w hSw
    obtain ⟨s1, s2, s3⟩ := hSw
    go_simp
    try with_reducible rfl
  simp only [Act.put, List.getElem_toArray, List.getElem_cons_succ, List.getElem_cons_zero, List.setIfInBounds_toArray, List.set_cons_zero, List.set_cons_succ]
  refine C_take (none) (i := 29) (oi := _) (v := ?_) rfl (by kernel_rfl) (by kernel_rfl) (by kernel_rfl) (by kernel_rfl) (fun _ _ _ h => h) (S14.other (by decide) (by decide)) (Or.inl ⟨by rfl, ?_⟩) (fun o' _ => hS o') ?_
  rotate_left
  · intro w hSw
    obtain ⟨s1, s2, s3⟩ := hSw
    go_simp
    try with_reducible rfl
  simp only [Act.put, List.getElem_toArray, List.getElem_cons_succ, List.getElem_cons_zero, List.setIfInBounds_toArray, List.set_cons_zero, List.set_cons_succ]
  refine C_take (none) (i := 30) (oi := _) (v := ?_) rfl (by kernel_rfl) (by kernel_rfl) (by kernel_rfl) (by kernel_rfl) (fun _ _ _ h => h) (S14.other (by decide) (by decide)) (Or.inl ⟨by rfl, ?_⟩) (fun o' _ => hS o') ?_
  rotate_left
  · intro w hSw
    obtain ⟨s1, s2, s3⟩ := hSw
    go_simp
    try with_reducible rfl
  simp only [Act.put, List.getElem_toArray, List.getElem_cons_succ, List.getElem_cons_zero, List.setIfInBounds_toArray, List.set_cons_zero, List.set_cons_succ]
  refine C_take (some 35) (i := 31) (oi := _) (v := ?_) rfl (by kernel_rfl) (by kernel_rfl) (by kernel_rfl) (by kernel_rfl) (fun _ _ _ h => h) (S14.other (by decide) (by decide)) (Or.inl ⟨by rfl, ?_⟩) (fun o' _ => hS o') ?_
  rotate_left
  · intro w hSw
    have s1 := hSw.2 rfl
    go_simp
    try with_reducible rfl
  simp only [Act.put, List.getElem_toArray, List.getElem_cons_succ, List.getElem_cons_zero, List.setIfInBounds_toArray, List.set_cons_zero, List.set_cons_succ]
  refine C_take (none) (i := 32) (oi := _) (v := ?_) rfl (by kernel_rfl) (by kernel_rfl) (by kernel_rfl) (by kernel_rfl) (fun _ _ _ h => h) (S14.other (by decide) (by decide)) (Or.inl ⟨by rfl, ?_⟩) (fun o' _ => hS o') ?_
  rotate_left
  · intro w hSw
    obtain ⟨s1, s2, s3⟩ := hSw
    go_simp
    try with_reducible rfl
  simp only [Act.put, List.getElem_toArray, List.getElem_cons_succ, List.getElem_cons_zero, List.setIfInBounds_toArray, List.set_cons_zero, List.set_cons_succ]
  refine C_take (none) (i := 33) (oi := _) (v := ?_) rfl (by kernel_rfl) (by kernel_rfl) (by kernel_rfl) (by kernel_rfl) (fun _ _ _ h => h) (S14.other (by decide) (by decide)) (Or.inl ⟨by rfl, ?_⟩) (fun o' _ => hS o') ?_
  rotate_left
  · intro w hSw
    obtain ⟨s1, s2, s3⟩ := hSw
    go_simp
    try with_reducible rfl
  simp only [Act.put, List.getElem_toArray, List.getElem_cons_succ, List.getElem_cons_zero, List.setIfInBounds_toArray, List.set_cons_zero, List.set_cons_succ]
  have HBBwd := HBB
  have HEwd := HE
  have HWwd := HW
  have HTwd := HT
  have hBwd := hB
  clear HBB HE HW HT hB hS
  refine C_ready (rs := [22, 34]) (by kernel_rfl) (by simp) ?_
  refine AllC.cons (i := 22) (o := _) rfl (by rfl) (fun K' hK => ?_) ?_
  · skip
    have hrow := row_alloc wd 3 [.int .i64 (c : Int)]
    have hal : Below wd.heap.size wd (wd.alloc (.cells [.int .i64 (c : Int)].toArray 3)) := (Below.refl _ _).alloc (Nat.le_refl _) _
    have HBBw1 := Lib.hid (HBBwd.out.keep hal HBBwd.out.lt)
    have HEw1 := Lib.hid (HEwd.out.keep hal HEwd.out.lt)
    have HWw1 := Lib.hid (HWwd.out.keep hal HWwd.out.lt)
    have HTw1 := Lib.hid (HTwd.out.below hal)
    have hBw1 : B ≤ (wd.alloc (.cells [.int .i64 (c : Int)].toArray 3)).heap.size := Nat.le_trans hBwd hal.size
    obtain ⟨bA, hbA⟩ : ∃ b, b = wd.heap.size := ⟨_, rfl⟩
    have HRAw1 := Lib.hid hrow
    rw [← hbA] at HRAw1
    have HNA : Hid (∀ v n xs, wd.ownsRow B 3 1 v n xs → v.ownBlock ≠ some bA) := fun v n xs ho e => by
      have := (ho.lt bA e).2
      omega
    have HNAA := Lib.hid (HNA.out _ _ _ HTwd.out.a)
    have HNCA := Lib.hid (HNA.out _ _ _ HTwd.out.c)
    clear hal hrow HNA
    go_simp
    rw [← hbA]
    clear hbA
    refine hK _ _ (fun o _ => S14.of HBBw1.out HLB.out HEw1.out HWw1.out HLA.out HLC.out o) ?_
    clear hK K'
    generalize wd.alloc (.cells #[.int .i64 (c : Int)] 3) = w1 at *
    simp only [Act.put, List.getElem_toArray, List.getElem_cons_succ, List.getElem_cons_zero, List.setIfInBounds_toArray, List.set_cons_zero, List.set_cons_succ]
    refine C_ready (rs := [23, 34]) (by kernel_rfl) (by simp) ?_
    refine AllC.cons (i := 23) (o := _) rfl (by rfl) (fun K' hK => ?_) ?_
    · skip
      refine wp_append_at _ _ 25 rfl B 3 i0 (.int .i64 0) 8 Try.underlying25 HI0.out HZ0.out rfl HZ1.out HZ2.out _ nA _ (by rfl) HTw1.out.a ⟨bA, 0, none⟩ 1 (.int .i64 (c : Int)) (by rfl) (HRAw1.out.cell 0) rfl (by unfold maxLen; omega) (by omega) hBw1 ?_
      intro aoA coA w2 hO hg hl
      have HBBw2 := Lib.hid (row_grown HTw1.out.a hg HBBw1.out (by decide))
      have HEw2 := Lib.hid (row_grown HTw1.out.a hg HEw1.out (by decide))
      have HWw2 := Lib.hid (row_grown HTw1.out.a hg HWw1.out (by decide))
      have hBw2 : B ≤ w2.heap.size := Nat.le_trans hBw1 hg.size
      have HTw2 := Lib.hid (HTw1.out.app hO hg hl)
      clear hO hg hl
      refine hK _ _ (fun o _ => S14.of HBBw2.out HLB.out HEw2.out HWw2.out HLA.out HLC.out o) ?_
      clear hK K'
      simp only [Act.put, List.getElem_toArray, List.getElem_cons_succ, List.getElem_cons_zero, List.setIfInBounds_toArray, List.set_cons_zero, List.set_cons_succ]
      refine C_ready (rs := [34]) (by kernel_rfl) (by simp) ?_
      refine AllC.cons (i := 34) (o := _) rfl (by rfl) (fun K' hK => ?_) ?_
      · skip
        have hrow := row_alloc w2 3 [.int .i64 (a : Int)]
        have hal : Below w2.heap.size w2 (w2.alloc (.cells [.int .i64 (a : Int)].toArray 3)) := (Below.refl _ _).alloc (Nat.le_refl _) _
        have HBBw3 := Lib.hid (HBBw2.out.keep hal HBBw2.out.lt)
        have HEw3 := Lib.hid (HEw2.out.keep hal HEw2.out.lt)
        have HWw3 := Lib.hid (HWw2.out.keep hal HWw2.out.lt)
        have HTw3 := Lib.hid (HTw2.out.below hal)
        have hBw3 : B ≤ (w2.alloc (.cells [.int .i64 (a : Int)].toArray 3)).heap.size := Nat.le_trans hBw2 hal.size
        obtain ⟨bC, hbC⟩ : ∃ b, b = w2.heap.size := ⟨_, rfl⟩
        have HRCw3 := Lib.hid hrow
        rw [← hbC] at HRCw3
        have HNC : Hid (∀ v n xs, w2.ownsRow B 3 1 v n xs → v.ownBlock ≠ some bC) := fun v n xs ho e => by
          have := (ho.lt bC e).2
          omega
        have HNAC := Lib.hid (HNC.out _ _ _ HTw2.out.a)
        have HNCC := Lib.hid (HNC.out _ _ _ HTw2.out.c)
        clear hal hrow HNC
        go_simp
        rw [← hbC]
        clear hbC
        refine hK _ _ (fun o _ => S14.of HBBw3.out HLB.out HEw3.out HWw3.out HLA.out HLC.out o) ?_
        clear hK K'
        generalize w2.alloc (.cells #[.int .i64 (a : Int)] 3) = w3 at *
        simp only [Act.put, List.getElem_toArray, List.getElem_cons_succ, List.getElem_cons_zero, List.setIfInBounds_toArray, List.set_cons_zero, List.set_cons_succ]
        refine C_ready (rs := [35]) (by kernel_rfl) (by simp) ?_
        refine AllC.cons (i := 35) (o := _) rfl (by rfl) (fun K' hK => ?_) ?_
        · skip
          refine wp_append_at _ _ 25 rfl B 3 i0 (.int .i64 0) 8 Try.underlying25 HI0.out HZ0.out rfl HZ1.out HZ2.out _ nC _ (by rfl) HTw3.out.c ⟨bC, 0, none⟩ 1 (.int .i64 (a : Int)) (by rfl) (HRCw3.out.cell 0) rfl (by unfold maxLen; omega) (by omega) hBw3 ?_
          intro aoC coC w4 hO hg hl
          have HBBw4 := Lib.hid (row_grown HTw3.out.c hg HBBw3.out (by decide))
          have HEw4 := Lib.hid (row_grown HTw3.out.c hg HEw3.out (by decide))
          have HWw4 := Lib.hid (row_grown HTw3.out.c hg HWw3.out (by decide))
          have hBw4 : B ≤ w4.heap.size := Nat.le_trans hBw3 hg.size
          have HTw4 := Lib.hid (HTw3.out.swap.app hO hg hl).swap
          clear hO hg hl
          refine hK _ _ (fun o _ => S14.of HBBw4.out HLB.out HEw4.out HWw4.out HLA.out HLC.out o) ?_
          clear hK K'
          simp only [Act.put, List.getElem_toArray, List.getElem_cons_succ, List.getElem_cons_zero, List.setIfInBounds_toArray, List.set_cons_zero, List.set_cons_succ]
          refine C_take (none) (i := 36) (oi := _) (v := ?_) rfl (by kernel_rfl) (by kernel_rfl) (by kernel_rfl) (by kernel_rfl) (fun _ _ _ h => h) (S14.other (by decide) (by decide)) (Or.inl ⟨by rfl, ?_⟩) (fun o _ => S14.of HBBw4.out HLB.out HEw4.out HWw4.out HLA.out HLC.out o) ?_
          rotate_left
          · intro w hSw
            obtain ⟨s1, s2, s3⟩ := hSw
            go_simp
            try with_reducible rfl
          simp only [Act.put, List.getElem_toArray, List.getElem_cons_succ, List.getElem_cons_zero, List.setIfInBounds_toArray, List.set_cons_zero, List.set_cons_succ]
          refine C_ready (rs := [37]) (by kernel_rfl) (by simp) ?_
          refine AllC.cons (i := 37) (o := _) rfl (by rfl) (fun K' hK => ?_) ?_
          · have c1 := (HWw4.out.cell a).trans HLA.out
            have c2 := HWw4.out.frozen a
            have ho := only_setCell w4 bw a (.slice aoA (nA + 1) coA)
            have HT5 := Lib.hid (HTw4.out.only ho HWw4.out (by decide))
            have HBB5 := Lib.hid (HBBw4.out.other ho (row_ne HBBw4.out HWw4.out (by decide)))
            have HE5 := Lib.hid (HEw4.out.other ho (row_ne HEw4.out HWw4.out (by decide)))
            have HW5 := Lib.hid (HWw4.out.set a (.slice aoA (nA + 1) coA))
            go_simp
            refine hK _ _ (S14.late HBB5.out HLB.out HE5.out (by rfl) (by rfl)) ?_
            clear hK K' c1 c2 ho
            generalize w4.setCell ⟨bw, a, none⟩ (.slice aoA (nA + 1) coA) = w5 at *
            simp only [Act.put, List.getElem_toArray, List.getElem_cons_succ, List.getElem_cons_zero, List.setIfInBounds_toArray, List.set_cons_zero, List.set_cons_succ]
            refine C_take (none) (i := 38) (oi := _) (v := ?_) rfl (by kernel_rfl) (by kernel_rfl) (by kernel_rfl) (by kernel_rfl) (fun _ _ _ h => h) (S14.other (by decide) (by decide)) (Or.inl ⟨by rfl, ?_⟩) (S14.late HBB5.out HLB.out HE5.out (by rfl) (by rfl)) ?_
            rotate_left
            · intro w hSw
              obtain ⟨s1, s2, s3⟩ := hSw
              go_simp
              try with_reducible rfl
            simp only [Act.put, List.getElem_toArray, List.getElem_cons_succ, List.getElem_cons_zero, List.setIfInBounds_toArray, List.set_cons_zero, List.set_cons_succ]
            refine C_ready (rs := [39]) (by kernel_rfl) (by simp) ?_
            refine AllC.cons (i := 39) (o := _) rfl (by rfl) (fun K' hK => ?_) ?_
            · have c1 := (HW5.out.cell c).trans ((List.getElem?_set_ne hac).trans HLC.out)
              have c2 := HW5.out.frozen c
              have ho := only_setCell w5 bw c (.slice aoC (nC + 1) coC)
              have HT6 := Lib.hid (HT5.out.only ho HW5.out (by decide))
              have HW6 := Lib.hid (HW5.out.set c (.slice aoC (nC + 1) coC))
              go_simp
              refine hK _ _ (S14.late (HBB5.out.other ho (row_ne HBB5.out HW5.out (by decide))) HLB.out (HE5.out.other ho (row_ne HE5.out HW5.out (by decide))) (by rfl) (by rfl)) ?_
              refine C_done (by kernel_rfl) ?_ _
              exact NoPanic.normal (hnext _ _ HW6.out HT6.out)
            exact AllC.nil
          exact AllC.nil
        exact AllC.nil
      exact AllC.nil
    refine AllC.cons (i := 34) (o := _) rfl (by rfl) (fun K' hK => ?_) ?_
    · skip
      have hrow := row_alloc w1 3 [.int .i64 (a : Int)]
      have hal : Below w1.heap.size w1 (w1.alloc (.cells [.int .i64 (a : Int)].toArray 3)) := (Below.refl _ _).alloc (Nat.le_refl _) _
      have HBBw2 := Lib.hid (HBBw1.out.keep hal HBBw1.out.lt)
      have HEw2 := Lib.hid (HEw1.out.keep hal HEw1.out.lt)
      have HWw2 := Lib.hid (HWw1.out.keep hal HWw1.out.lt)
      have HTw2 := Lib.hid (HTw1.out.below hal)
      have hBw2 : B ≤ (w1.alloc (.cells [.int .i64 (a : Int)].toArray 3)).heap.size := Nat.le_trans hBw1 hal.size
      obtain ⟨bC, hbC⟩ : ∃ b, b = w1.heap.size := ⟨_, rfl⟩
      have HRCw2 := Lib.hid hrow
      rw [← hbC] at HRCw2
      have HNC : Hid (∀ v n xs, w1.ownsRow B 3 1 v n xs → v.ownBlock ≠ some bC) := fun v n xs ho e => by
        have := (ho.lt bC e).2
        omega
      have HNAC := Lib.hid (HNC.out _ _ _ HTw1.out.a)
      have HNCC := Lib.hid (HNC.out _ _ _ HTw1.out.c)
      have HRAw2 := Lib.hid (HRAw1.out.keep hal HRAw1.out.lt)
      clear hal hrow HNC
      go_simp
      rw [← hbC]
      clear hbC
      refine hK _ _ (fun o _ => S14.of HBBw2.out HLB.out HEw2.out HWw2.out HLA.out HLC.out o) ?_
      clear hK K'
      generalize w1.alloc (.cells #[.int .i64 (a : Int)] 3) = w2 at *
      simp only [Act.put, List.getElem_toArray, List.getElem_cons_succ, List.getElem_cons_zero, List.setIfInBounds_toArray, List.set_cons_zero, List.set_cons_succ]
      refine C_ready (rs := [23]) (by kernel_rfl) (by simp) ?_
      refine AllC.cons (i := 23) (o := _) rfl (by rfl) (fun K' hK => ?_) ?_
      · skip
        refine wp_append_at _ _ 25 rfl B 3 i0 (.int .i64 0) 8 Try.underlying25 HI0.out HZ0.out rfl HZ1.out HZ2.out _ nA _ (by rfl) HTw2.out.a ⟨bA, 0, none⟩ 1 (.int .i64 (c : Int)) (by rfl) (HRAw2.out.cell 0) rfl (by unfold maxLen; omega) (by omega) hBw2 ?_
        intro aoA coA w3 hO hg hl
        have HBBw3 := Lib.hid (row_grown HTw2.out.a hg HBBw2.out (by decide))
        have HEw3 := Lib.hid (row_grown HTw2.out.a hg HEw2.out (by decide))
        have HWw3 := Lib.hid (row_grown HTw2.out.a hg HWw2.out (by decide))
        have hBw3 : B ≤ w3.heap.size := Nat.le_trans hBw2 hg.size
        have HTw3 := Lib.hid (HTw2.out.app hO hg hl)
        have HRCw3 : Hid (Row w3 bC 3 [.int .i64 (a : Int)]) := (hg.block bC HRCw2.out.lt (fun e => HNAC.out e.symm)).trans HRCw2.out
        clear hO hg hl
        refine hK _ _ (fun o _ => S14.of HBBw3.out HLB.out HEw3.out HWw3.out HLA.out HLC.out o) ?_
        clear hK K'
        simp only [Act.put, List.getElem_toArray, List.getElem_cons_succ, List.getElem_cons_zero, List.setIfInBounds_toArray, List.set_cons_zero, List.set_cons_succ]
        refine C_ready (rs := [35]) (by kernel_rfl) (by simp) ?_
        refine AllC.cons (i := 35) (o := _) rfl (by rfl) (fun K' hK => ?_) ?_
        · skip
          refine wp_append_at _ _ 25 rfl B 3 i0 (.int .i64 0) 8 Try.underlying25 HI0.out HZ0.out rfl HZ1.out HZ2.out _ nC _ (by rfl) HTw3.out.c ⟨bC, 0, none⟩ 1 (.int .i64 (a : Int)) (by rfl) (HRCw3.out.cell 0) rfl (by unfold maxLen; omega) (by omega) hBw3 ?_
          intro aoC coC w4 hO hg hl
          have HBBw4 := Lib.hid (row_grown HTw3.out.c hg HBBw3.out (by decide))
          have HEw4 := Lib.hid (row_grown HTw3.out.c hg HEw3.out (by decide))
          have HWw4 := Lib.hid (row_grown HTw3.out.c hg HWw3.out (by decide))
          have hBw4 : B ≤ w4.heap.size := Nat.le_trans hBw3 hg.size
          have HTw4 := Lib.hid (HTw3.out.swap.app hO hg hl).swap
          clear hO hg hl
          refine hK _ _ (fun o _ => S14.of HBBw4.out HLB.out HEw4.out HWw4.out HLA.out HLC.out o) ?_
          clear hK K'
          simp only [Act.put, List.getElem_toArray, List.getElem_cons_succ, List.getElem_cons_zero, List.setIfInBounds_toArray, List.set_cons_zero, List.set_cons_succ]
          refine C_take (none) (i := 36) (oi := _) (v := ?_) rfl (by kernel_rfl) (by kernel_rfl) (by kernel_rfl) (by kernel_rfl) (fun _ _ _ h => h) (S14.other (by decide) (by decide)) (Or.inl ⟨by rfl, ?_⟩) (fun o _ => S14.of HBBw4.out HLB.out HEw4.out HWw4.out HLA.out HLC.out o) ?_
          rotate_left
          · intro w hSw
            obtain ⟨s1, s2, s3⟩ := hSw
            go_simp
            try with_reducible rfl
          simp only [Act.put, List.getElem_toArray, List.getElem_cons_succ, List.getElem_cons_zero, List.setIfInBounds_toArray, List.set_cons_zero, List.set_cons_succ]
          refine C_ready (rs := [37]) (by kernel_rfl) (by simp) ?_
          refine AllC.cons (i := 37) (o := _) rfl (by rfl) (fun K' hK => ?_) ?_
          · have c1 := (HWw4.out.cell a).trans HLA.out
            have c2 := HWw4.out.frozen a
            have ho := only_setCell w4 bw a (.slice aoA (nA + 1) coA)
            have HT5 := Lib.hid (HTw4.out.only ho HWw4.out (by decide))
            have HBB5 := Lib.hid (HBBw4.out.other ho (row_ne HBBw4.out HWw4.out (by decide)))
            have HE5 := Lib.hid (HEw4.out.other ho (row_ne HEw4.out HWw4.out (by decide)))
            have HW5 := Lib.hid (HWw4.out.set a (.slice aoA (nA + 1) coA))
            go_simp
            refine hK _ _ (S14.late HBB5.out HLB.out HE5.out (by rfl) (by rfl)) ?_
            clear hK K' c1 c2 ho
            generalize w4.setCell ⟨bw, a, none⟩ (.slice aoA (nA + 1) coA) = w5 at *
            simp only [Act.put, List.getElem_toArray, List.getElem_cons_succ, List.getElem_cons_zero, List.setIfInBounds_toArray, List.set_cons_zero, List.set_cons_succ]
            refine C_take (none) (i := 38) (oi := _) (v := ?_) rfl (by kernel_rfl) (by kernel_rfl) (by kernel_rfl) (by kernel_rfl) (fun _ _ _ h => h) (S14.other (by decide) (by decide)) (Or.inl ⟨by rfl, ?_⟩) (S14.late HBB5.out HLB.out HE5.out (by rfl) (by rfl)) ?_
            rotate_left
            · intro w hSw
              obtain ⟨s1, s2, s3⟩ := hSw
              go_simp
              try with_reducible rfl
            simp only [Act.put, List.getElem_toArray, List.getElem_cons_succ, List.getElem_cons_zero, List.setIfInBounds_toArray, List.set_cons_zero, List.set_cons_succ]
            refine C_ready (rs := [39]) (by kernel_rfl) (by simp) ?_
            refine AllC.cons (i := 39) (o := _) rfl (by rfl) (fun K' hK => ?_) ?_
            · have c1 := (HW5.out.cell c).trans ((List.getElem?_set_ne hac).trans HLC.out)
              have c2 := HW5.out.frozen c
              have ho := only_setCell w5 bw c (.slice aoC (nC + 1) coC)
              have HT6 := Lib.hid (HT5.out.only ho HW5.out (by decide))
              have HW6 := Lib.hid (HW5.out.set c (.slice aoC (nC + 1) coC))
              go_simp
              refine hK _ _ (S14.late (HBB5.out.other ho (row_ne HBB5.out HW5.out (by decide))) HLB.out (HE5.out.other ho (row_ne HE5.out HW5.out (by decide))) (by rfl) (by rfl)) ?_
              refine C_done (by kernel_rfl) ?_ _
              exact NoPanic.normal (hnext _ _ HW6.out HT6.out)
            exact AllC.nil
          exact AllC.nil
        exact AllC.nil
      exact AllC.nil
    exact AllC.nil
  refine AllC.cons (i := 34) (o := _) rfl (by rfl) (fun K' hK => ?_) ?_
  · skip
    have hrow := row_alloc wd 3 [.int .i64 (a : Int)]
    have hal : Below wd.heap.size wd (wd.alloc (.cells [.int .i64 (a : Int)].toArray 3)) := (Below.refl _ _).alloc (Nat.le_refl _) _
    have HBBw1 := Lib.hid (HBBwd.out.keep hal HBBwd.out.lt)
    have HEw1 := Lib.hid (HEwd.out.keep hal HEwd.out.lt)
    have HWw1 := Lib.hid (HWwd.out.keep hal HWwd.out.lt)
    have HTw1 := Lib.hid (HTwd.out.below hal)
    have hBw1 : B ≤ (wd.alloc (.cells [.int .i64 (a : Int)].toArray 3)).heap.size := Nat.le_trans hBwd hal.size
    obtain ⟨bC, hbC⟩ : ∃ b, b = wd.heap.size := ⟨_, rfl⟩
    have HRCw1 := Lib.hid hrow
    rw [← hbC] at HRCw1
    have HNC : Hid (∀ v n xs, wd.ownsRow B 3 1 v n xs → v.ownBlock ≠ some bC) := fun v n xs ho e => by
      have := (ho.lt bC e).2
      omega
    have HNAC := Lib.hid (HNC.out _ _ _ HTwd.out.a)
    have HNCC := Lib.hid (HNC.out _ _ _ HTwd.out.c)
    clear hal hrow HNC
    go_simp
    rw [← hbC]
    clear hbC
    refine hK _ _ (fun o _ => S14.of HBBw1.out HLB.out HEw1.out HWw1.out HLA.out HLC.out o) ?_
    clear hK K'
    generalize wd.alloc (.cells #[.int .i64 (a : Int)] 3) = w1 at *
    simp only [Act.put, List.getElem_toArray, List.getElem_cons_succ, List.getElem_cons_zero, List.setIfInBounds_toArray, List.set_cons_zero, List.set_cons_succ]
    refine C_ready (rs := [22]) (by kernel_rfl) (by simp) ?_
    refine AllC.cons (i := 22) (o := _) rfl (by rfl) (fun K' hK => ?_) ?_
    · skip
      have hrow := row_alloc w1 3 [.int .i64 (c : Int)]
      have hal : Below w1.heap.size w1 (w1.alloc (.cells [.int .i64 (c : Int)].toArray 3)) := (Below.refl _ _).alloc (Nat.le_refl _) _
      have HBBw2 := Lib.hid (HBBw1.out.keep hal HBBw1.out.lt)
      have HEw2 := Lib.hid (HEw1.out.keep hal HEw1.out.lt)
      have HWw2 := Lib.hid (HWw1.out.keep hal HWw1.out.lt)
      have HTw2 := Lib.hid (HTw1.out.below hal)
      have hBw2 : B ≤ (w1.alloc (.cells [.int .i64 (c : Int)].toArray 3)).heap.size := Nat.le_trans hBw1 hal.size
      obtain ⟨bA, hbA⟩ : ∃ b, b = w1.heap.size := ⟨_, rfl⟩
      have HRAw2 := Lib.hid hrow
      rw [← hbA] at HRAw2
      have HNA : Hid (∀ v n xs, w1.ownsRow B 3 1 v n xs → v.ownBlock ≠ some bA) := fun v n xs ho e => by
        have := (ho.lt bA e).2
        omega
      have HNAA := Lib.hid (HNA.out _ _ _ HTw1.out.a)
      have HNCA := Lib.hid (HNA.out _ _ _ HTw1.out.c)
      have HRCw2 := Lib.hid (HRCw1.out.keep hal HRCw1.out.lt)
      clear hal hrow HNA
      go_simp
      rw [← hbA]
      clear hbA
      refine hK _ _ (fun o _ => S14.of HBBw2.out HLB.out HEw2.out HWw2.out HLA.out HLC.out o) ?_
      clear hK K'
      generalize w1.alloc (.cells #[.int .i64 (c : Int)] 3) = w2 at *
      simp only [Act.put, List.getElem_toArray, List.getElem_cons_succ, List.getElem_cons_zero, List.setIfInBounds_toArray, List.set_cons_zero, List.set_cons_succ]
      refine C_ready (rs := [23]) (by kernel_rfl) (by simp) ?_
      refine AllC.cons (i := 23) (o := _) rfl (by rfl) (fun K' hK => ?_) ?_
      · skip
        refine wp_append_at _ _ 25 rfl B 3 i0 (.int .i64 0) 8 Try.underlying25 HI0.out HZ0.out rfl HZ1.out HZ2.out _ nA _ (by rfl) HTw2.out.a ⟨bA, 0, none⟩ 1 (.int .i64 (c : Int)) (by rfl) (HRAw2.out.cell 0) rfl (by unfold maxLen; omega) (by omega) hBw2 ?_
        intro aoA coA w3 hO hg hl
        have HBBw3 := Lib.hid (row_grown HTw2.out.a hg HBBw2.out (by decide))
        have HEw3 := Lib.hid (row_grown HTw2.out.a hg HEw2.out (by decide))
        have HWw3 := Lib.hid (row_grown HTw2.out.a hg HWw2.out (by decide))
        have hBw3 : B ≤ w3.heap.size := Nat.le_trans hBw2 hg.size
        have HTw3 := Lib.hid (HTw2.out.app hO hg hl)
        have HRCw3 : Hid (Row w3 bC 3 [.int .i64 (a : Int)]) := (hg.block bC HRCw2.out.lt (fun e => HNAC.out e.symm)).trans HRCw2.out
        clear hO hg hl
        refine hK _ _ (fun o _ => S14.of HBBw3.out HLB.out HEw3.out HWw3.out HLA.out HLC.out o) ?_
        clear hK K'
        simp only [Act.put, List.getElem_toArray, List.getElem_cons_succ, List.getElem_cons_zero, List.setIfInBounds_toArray, List.set_cons_zero, List.set_cons_succ]
        refine C_ready (rs := [35]) (by kernel_rfl) (by simp) ?_
        refine AllC.cons (i := 35) (o := _) rfl (by rfl) (fun K' hK => ?_) ?_
        · skip
          refine wp_append_at _ _ 25 rfl B 3 i0 (.int .i64 0) 8 Try.underlying25 HI0.out HZ0.out rfl HZ1.out HZ2.out _ nC _ (by rfl) HTw3.out.c ⟨bC, 0, none⟩ 1 (.int .i64 (a : Int)) (by rfl) (HRCw3.out.cell 0) rfl (by unfold maxLen; omega) (by omega) hBw3 ?_
          intro aoC coC w4 hO hg hl
          have HBBw4 := Lib.hid (row_grown HTw3.out.c hg HBBw3.out (by decide))
          have HEw4 := Lib.hid (row_grown HTw3.out.c hg HEw3.out (by decide))
          have HWw4 := Lib.hid (row_grown HTw3.out.c hg HWw3.out (by decide))
          have hBw4 : B ≤ w4.heap.size := Nat.le_trans hBw3 hg.size
          have HTw4 := Lib.hid (HTw3.out.swap.app hO hg hl).swap
          clear hO hg hl
          refine hK _ _ (fun o _ => S14.of HBBw4.out HLB.out HEw4.out HWw4.out HLA.out HLC.out o) ?_
          clear hK K'
          simp only [Act.put, List.getElem_toArray, List.getElem_cons_succ, List.getElem_cons_zero, List.setIfInBounds_toArray, List.set_cons_zero, List.set_cons_succ]
          refine C_take (none) (i := 36) (oi := _) (v := ?_) rfl (by kernel_rfl) (by kernel_rfl) (by kernel_rfl) (by kernel_rfl) (fun _ _ _ h => h) (S14.other (by decide) (by decide)) (Or.inl ⟨by rfl, ?_⟩) (fun o _ => S14.of HBBw4.out HLB.out HEw4.out HWw4.out HLA.out HLC.out o) ?_
          rotate_left
          · intro w hSw
            obtain ⟨s1, s2, s3⟩ := hSw
            go_simp
            try with_reducible rfl
          simp only [Act.put, List.getElem_toArray, List.getElem_cons_succ, List.getElem_cons_zero, List.setIfInBounds_toArray, List.set_cons_zero, List.set_cons_succ]
          refine C_ready (rs := [37]) (by kernel_rfl) (by simp) ?_
          refine AllC.cons (i := 37) (o := _) rfl (by rfl) (fun K' hK => ?_) ?_
          · have c1 := (HWw4.out.cell a).trans HLA.out
            have c2 := HWw4.out.frozen a
            have ho := only_setCell w4 bw a (.slice aoA (nA + 1) coA)
            have HT5 := Lib.hid (HTw4.out.only ho HWw4.out (by decide))
            have HBB5 := Lib.hid (HBBw4.out.other ho (row_ne HBBw4.out HWw4.out (by decide)))
            have HE5 := Lib.hid (HEw4.out.other ho (row_ne HEw4.out HWw4.out (by decide)))
            have HW5 := Lib.hid (HWw4.out.set a (.slice aoA (nA + 1) coA))
            go_simp
            refine hK _ _ (S14.late HBB5.out HLB.out HE5.out (by rfl) (by rfl)) ?_
            clear hK K' c1 c2 ho
            generalize w4.setCell ⟨bw, a, none⟩ (.slice aoA (nA + 1) coA) = w5 at *
            simp only [Act.put, List.getElem_toArray, List.getElem_cons_succ, List.getElem_cons_zero, List.setIfInBounds_toArray, List.set_cons_zero, List.set_cons_succ]
            refine C_take (none) (i := 38) (oi := _) (v := ?_) rfl (by kernel_rfl) (by kernel_rfl) (by kernel_rfl) (by kernel_rfl) (fun _ _ _ h => h) (S14.other (by decide) (by decide)) (Or.inl ⟨by rfl, ?_⟩) (S14.late HBB5.out HLB.out HE5.out (by rfl) (by rfl)) ?_
            rotate_left
            · intro w hSw
              obtain ⟨s1, s2, s3⟩ := hSw
              go_simp
              try with_reducible rfl
            simp only [Act.put, List.getElem_toArray, List.getElem_cons_succ, List.getElem_cons_zero, List.setIfInBounds_toArray, List.set_cons_zero, List.set_cons_succ]
            refine C_ready (rs := [39]) (by kernel_rfl) (by simp) ?_
            refine AllC.cons (i := 39) (o := _) rfl (by rfl) (fun K' hK => ?_) ?_
            · have c1 := (HW5.out.cell c).trans ((List.getElem?_set_ne hac).trans HLC.out)
              have c2 := HW5.out.frozen c
              have ho := only_setCell w5 bw c (.slice aoC (nC + 1) coC)
              have HT6 := Lib.hid (HT5.out.only ho HW5.out (by decide))
              have HW6 := Lib.hid (HW5.out.set c (.slice aoC (nC + 1) coC))
              go_simp
              refine hK _ _ (S14.late (HBB5.out.other ho (row_ne HBB5.out HW5.out (by decide))) HLB.out (HE5.out.other ho (row_ne HE5.out HW5.out (by decide))) (by rfl) (by rfl)) ?_
              refine C_done (by kernel_rfl) ?_ _
              exact NoPanic.normal (hnext _ _ HW6.out HT6.out)
            exact AllC.nil
          exact AllC.nil
        exact AllC.nil
      exact AllC.nil
    exact AllC.nil
  exact AllC.nil
end Rt
end Go.Proofs.Ytjikildiblchpaa
