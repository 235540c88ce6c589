/- WALK: rotor.newBoard: a board is laid, in whatever order Go takes. -/
import Derived.Test.YtjikildiblchpaaRtA
import Derived.Test.YtjikildiblchpaaGfP
namespace Go.Proofs.Ytjikildiblchpaa
set_option linter.unusedSimpArgs false
set_option linter.unusedVariables false
open Go.RowKit Go.Lib
namespace Rt
open Tld Mem

theorem own_base {w : World} {B B' : Nat} {e : TypeId} {v : Value} {n : Nat} {xs : List Value} (h : w.ownsRow B e 1 v n xs) (hB : B' ≤ B) : w.ownsRow B' e 1 v n xs := by
  refine ⟨h.1, ?_⟩
  rcases h.2 with h2 | ⟨g, cap, cur, h1, hb, rest⟩
  · exact .inl h2
  · exact .inr ⟨g, cap, cur, h1, Nat.le_trans hB hb, rest⟩
theorem mk_slcs (P : Nat) (hP : P ≤ 10) (w : World) : (Instr.makeSlice 56 (.int .i64 (P : Int)) (.int .i64 (P : Int))).run Try.prog w = .ok (.slice (some ⟨w.heap.size, 0, none⟩) P P) (w.alloc (.cells (Array.replicate P (Value.slice none 0 0)) 25)) := by
  obtain ⟨i0, hI0, hz0, hz1, hz2⟩ := info_parts infoSl
  have hr := run_make (P := Try.prog) w 56 25 i0 (.slice none 0 0) Try.underlying56 hI0 hz0 .i64 .i64 P P (by omega) (Int.le_refl _) (by rw [hz2]; omega) (by omega)
  rw [Int.toNat_natCast, hz1, Nat.mul_one, Ops.madeCells_one (.slice none 0 0) rfl, List.toArray_replicate] at hr
  exact hr
theorem rep_rowS (w : World) (P : Nat) : Row (w.alloc (.cells (Array.replicate P (Value.slice none 0 0)) 25)) w.heap.size 25 (List.replicate P (.slice none 0 0)) := by
  rw [← List.toArray_replicate]; exact row_alloc w _ _
def S8 (bg P : Nat) : Option Nat → World → Prop
  | none, w => w.cell? ⟨bg, 0, none⟩ = some (.int .i64 (P : Int))
  | some _, _ => True
theorem S8.some {bg P i : Nat} (w : World) : S8 bg P (some i) w := trivial
theorem S8.of {bg P : Nat} {w : World} {ev : Value} (h : Row w bg 24 [.int .i64 (P : Int), ev]) (o : Option Nat) : S8 bg P o w := by
  cases o with
  | none => exact h.cell 0
  | some _ => trivial
set_option maxHeartbeats 16000000 in
set_option maxRecDepth 1000000 in
theorem lay8 (P s bg sn sc cn cc : Nat) (sa ca : Option Addr) (sz cz : List Int) (ev : Value) (w : World) (hP : P ≤ 10) (HG : Hid (Row w bg 24 [.int .i64 (P : Int), ev])) (HS : Hid (Ints.Is w sa sn sz)) (HC : Hid (Ints.Is w ca cn cz)) (hsn : sn * 8 ≤ 140737488355328) (hcn : cn * 8 ≤ 140737488355328) (hsnil : Hid (sa = none → sn = 0)) (hcnil : Hid (ca = none → cn = 0))
    (c0 c5 c6 c7 c8 c9 c10 c11 c12 c13 c14 c15 c16 c17 c18 c19 c20 c21 c22 c23 c24 c25 c26 c27 c28 c29 c30 c31 c32 c33 c34 c35 c36 c37 c38 c39 c40 c41 c42 c43 c44 c45 c46 c47 c48 c49 c50 c51 c52 c53 c54 c55 c56 c57 c58 c59 c60 c61 c62 c63 c64 c65 c66 c67 c68 c69 c70 c71 c72 c73 c74 c75 c76 c77 c78 c79 c80 c81 c82 c83 c84 c85 c86 c87 c88 c89 c90 c91 c92 c93 c94 c95 c96 c97 c98 c99 c100 c101 c102 c103 c104 c105 c106 c107 c108 c109 c110 c111 c112 c113 c114 c115 c116 c117 c118 c119 c120 c121 c122 c123 c124 c125 c126 c127 c128 c129 c130 c131 c132 c133 c134 c135 c136 c137 c138 c139 c140 c141 c142 c143 c144 c145 c146 c147 c148 c149 c150 c151 : Value) (Q : Exit → Act → World → Prop)
    (hnext : ∀ {u40 u41 u42 u43 u44 u45 u46 u47 u48 u49 u50 u51 u52 : Value} {w' : World} (bb bM bH : Nat) (vS vC : Value), Row w' bb 58 [.int .i64 (s : Int), .slice (some ⟨bM, 0, none⟩) P P, vS, vC, .slice (some ⟨bH, 0, none⟩) P P] → Row w' bM 25 (List.replicate P (.slice none 0 0)) → w'.ownsRow w.heap.size 3 1 vS sn (sz.map (Value.int .i64)) → w'.ownsRow w.heap.size 3 1 vC cn (cz.map (Value.int .i64)) → Row w' bH 3 (List.replicate P (.int .i64 0)) →
      (∀ b, vS.ownBlock = some b → vC.ownBlock ≠ some b) → vS.ownBlock ≠ some bH → vC.ownBlock ≠ some bH → w.heap.size ≤ bb → w.heap.size ≤ bM → w.heap.size ≤ bH → Below w.heap.size w w' → Q .normal ⟨#[c0, .int .i64 (s : Int), .slice sa sn sc, .slice ca cn cc, .pointer (some ⟨bg, 0, none⟩), c5, c6, c7, c8, c9, c10, .pointer (some ⟨bb, 0, none⟩), c12, c13, c14, c15, c16, c17, c18, c19, c20, c21, c22, c23, c24, c25, c26, c27, c28, c29, c30, c31, c32, c33, c34, c35, c36, c37, c38, c39, u40, u41, u42, u43, u44, u45, u46, u47, u48, u49, u50, u51, u52, c53, c54, c55, c56, c57, c58, c59, c60, c61, c62, c63, c64, c65, c66, c67, c68, c69, c70, c71, c72, c73, c74, c75, c76, c77, c78, c79, c80, c81, c82, c83, c84, c85, c86, c87, c88, c89, c90, c91, c92, c93, c94, c95, c96, c97, c98, c99, c100, c101, c102, c103, c104, c105, c106, c107, c108, c109, c110, c111, c112, c113, c114, c115, c116, c117, c118, c119, c120, c121, c122, c123, c124, c125, c126, c127, c128, c129, c130, c131, c132, c133, c134, c135, c136, c137, c138, c139, c140, c141, c142, c143, c144, c145, c146, c147, c148, c149, c150, c151], []⟩ w')
    : Code.wp Try.prog ((regn 8 (Try.f20.body.getD .skip)).getD .skip) (NoPanic Q) ⟨#[c0, .int .i64 (s : Int), .slice sa sn sc, .slice ca cn cc, .pointer (some ⟨bg, 0, none⟩), c5, c6, c7, c8, c9, c10, c11, c12, c13, c14, c15, c16, c17, c18, c19, c20, c21, c22, c23, c24, c25, c26, c27, c28, c29, c30, c31, c32, c33, c34, c35, c36, c37, c38, c39, c40, c41, c42, c43, c44, c45, c46, c47, c48, c49, c50, c51, c52, c53, c54, c55, c56, c57, c58, c59, c60, c61, c62, c63, c64, c65, c66, c67, c68, c69, c70, c71, c72, c73, c74, c75, c76, c77, c78, c79, c80, c81, c82, c83, c84, c85, c86, c87, c88, c89, c90, c91, c92, c93, c94, c95, c96, c97, c98, c99, c100, c101, c102, c103, c104, c105, c106, c107, c108, c109, c110, c111, c112, c113, c114, c115, c116, c117, c118, c119, c120, c121, c122, c123, c124, c125, c126, c127, c128, c129, c130, c131, c132, c133, c134, c135, c136, c137, c138, c139, c140, c141, c142, c143, c144, c145, c146, c147, c148, c149, c150, c151], []⟩ w := by
  conv => arg 2; whnf
  have hP0 : 0 ≤ P := Nat.zero_le _
  have HB := Lib.hid ((Below.refl w.heap.size w).drew)
  have HG := Lib.hid HG.out.drew
  have HS := Lib.hid (HS.out.keep HB.out)
  have HC := Lib.hid (HC.out.keep HB.out)
  have HMI := Lib.hid (mk_ints P hP)
  have HMS := Lib.hid (mk_slcs P hP)
  have hlo : w.heap.size ≤ w.drew.heap.size := HB.out.size
  have hS : ∀ o, S8 bg P o w.drew := S8.of HG.out
  refine region_Cn (S8 bg P) 14 #[false, false, false, false, false, false, false, false, false, false, false, false, false, false] (by kernel_rfl) (by kernel_rfl) (by kernel_rfl) ?_
  generalize w.drew = w0 at *
  refine C_take (none) (i := 0) (oi := _) (v := ?_) rfl (by kernel_rfl) (by kernel_rfl) (by kernel_rfl) (by kernel_rfl) (fun _ _ _ h => h) S8.some (Or.inl ⟨by rfl, ?_⟩) (fun o' _ => hS o') ?_
  rotate_left
  · intro w hSw
    have s1 : w.cell? ⟨bg, 0, none⟩ = some (.int .i64 (P : Int)) := hSw
    go_simp
    try with_reducible rfl
  simp only [Act.put, List.getElem_toArray, List.getElem_cons_succ, List.getElem_cons_zero, List.setIfInBounds_toArray, List.set_cons_zero, List.set_cons_succ]
  refine C_take (none) (i := 1) (oi := _) (v := ?_) rfl (by kernel_rfl) (by kernel_rfl) (by kernel_rfl) (by kernel_rfl) (fun _ _ _ h => h) S8.some (Or.inl ⟨by rfl, ?_⟩) (fun o' _ => hS o') ?_
  rotate_left
  · intro w hSw
    have s1 : w.cell? ⟨bg, 0, none⟩ = some (.int .i64 (P : Int)) := hSw
    go_simp
    try with_reducible rfl
  simp only [Act.put, List.getElem_toArray, List.getElem_cons_succ, List.getElem_cons_zero, List.setIfInBounds_toArray, List.set_cons_zero, List.set_cons_succ]
  refine C_take (none) (i := 2) (oi := _) (v := ?_) rfl (by kernel_rfl) (by kernel_rfl) (by kernel_rfl) (by kernel_rfl) (fun _ _ _ h => h) S8.some (Or.inl ⟨by rfl, ?_⟩) (fun o' _ => hS o') ?_
  rotate_left
  · intro w hSw
    have s1 : w.cell? ⟨bg, 0, none⟩ = some (.int .i64 (P : Int)) := hSw
    go_simp
    try with_reducible rfl
  simp only [Act.put, List.getElem_toArray, List.getElem_cons_succ, List.getElem_cons_zero, List.setIfInBounds_toArray, List.set_cons_zero, List.set_cons_succ]
  refine C_take (none) (i := 4) (oi := _) (v := ?_) rfl (by kernel_rfl) (by kernel_rfl) (by kernel_rfl) (by kernel_rfl) (fun _ _ _ h => h) S8.some (Or.inl ⟨by rfl, ?_⟩) (fun o' _ => hS o') ?_
  rotate_left
  · intro w hSw
    have s1 : w.cell? ⟨bg, 0, none⟩ = some (.int .i64 (P : Int)) := hSw
    go_simp
    try with_reducible rfl
  simp only [Act.put, List.getElem_toArray, List.getElem_cons_succ, List.getElem_cons_zero, List.setIfInBounds_toArray, List.set_cons_zero, List.set_cons_succ]
  refine C_take (none) (i := 6) (oi := _) (v := ?_) rfl (by kernel_rfl) (by kernel_rfl) (by kernel_rfl) (by kernel_rfl) (fun _ _ _ h => h) S8.some (Or.inl ⟨by rfl, ?_⟩) (fun o' _ => hS o') ?_
  rotate_left
  · intro w hSw
    have s1 : w.cell? ⟨bg, 0, none⟩ = some (.int .i64 (P : Int)) := hSw
    go_simp
    try with_reducible rfl
  simp only [Act.put, List.getElem_toArray, List.getElem_cons_succ, List.getElem_cons_zero, List.setIfInBounds_toArray, List.set_cons_zero, List.set_cons_succ]
  refine C_take (none) (i := 8) (oi := _) (v := ?_) rfl (by kernel_rfl) (by kernel_rfl) (by kernel_rfl) (by kernel_rfl) (fun _ _ _ h => h) S8.some (Or.inl ⟨by rfl, ?_⟩) (fun o' _ => hS o') ?_
  rotate_left
  · intro w hSw
    have s1 : w.cell? ⟨bg, 0, none⟩ = some (.int .i64 (P : Int)) := hSw
    go_simp
    try with_reducible rfl
  simp only [Act.put, List.getElem_toArray, List.getElem_cons_succ, List.getElem_cons_zero, List.setIfInBounds_toArray, List.set_cons_zero, List.set_cons_succ]
  refine C_take (none) (i := 9) (oi := _) (v := ?_) rfl (by kernel_rfl) (by kernel_rfl) (by kernel_rfl) (by kernel_rfl) (fun _ _ _ h => h) S8.some (Or.inl ⟨by rfl, ?_⟩) (fun o' _ => hS o') ?_
  rotate_left
  · intro w hSw
    have s1 : w.cell? ⟨bg, 0, none⟩ = some (.int .i64 (P : Int)) := hSw
    go_simp
    try with_reducible rfl
  simp only [Act.put, List.getElem_toArray, List.getElem_cons_succ, List.getElem_cons_zero, List.setIfInBounds_toArray, List.set_cons_zero, List.set_cons_succ]
  clear hS
  have HG0 := HG
  have HS0 := HS
  have HC0 := HC
  have HB0 := HB
  have hlo0 := hlo
  clear HG HS HC HB hlo
  refine C_ready (rs := [3, 5, 10]) (by kernel_rfl) (by simp) ?_
  refine AllC.cons (i := 3) (o := _) rfl (by rfl) (fun K' hK => ?_) ?_
  · skip
    have hal : Below w0.heap.size w0 (w0.alloc (.cells (Array.replicate P (Value.slice none 0 0)) 25)) := (Below.refl _ _).alloc (Nat.le_refl _) _
    have FM1 := Lib.hid (rep_rowS w0 P)
    obtain ⟨bM, hbM⟩ : ∃ b, b = w0.heap.size := ⟨_, rfl⟩
    have hlM : w.heap.size ≤ bM := by omega
    rw [← hbM] at FM1
    have HG1 := Lib.hid (HG0.out.keep hal HG0.out.lt)
    have HS1 := Lib.hid (HS0.out.keep hal)
    have HC1 := Lib.hid (HC0.out.keep hal)
    have HB1 := Lib.hid (HB0.out.trans (hal.mono hlo0))
    have hlo1 : w.heap.size ≤ _ := Nat.le_trans hlo0 hal.size
    have hmk := HMS.out
    clear hal
    go_simp
    rw [← hbM]
    clear hbM hmk
    refine hK _ _ (fun o _ => S8.of HG1.out o) ?_
    clear hK K'
    generalize w0.alloc (.cells (Array.replicate P (Value.slice none 0 0)) 25) = w1 at *
    simp only [Act.put, List.getElem_toArray, List.getElem_cons_succ, List.getElem_cons_zero, List.setIfInBounds_toArray, List.set_cons_zero, List.set_cons_succ]
    refine C_ready (rs := [5, 10]) (by kernel_rfl) (by simp) ?_
    refine AllC.cons (i := 5) (o := _) rfl (by rfl) (fun K' hK => ?_) ?_
    · skip
      go_simp
      refine (clone_any sa sn sc sz w1 HS1.out.len hsn HS1.out.cells hsnil.out).mono ?_
      rintro e1 w2 ⟨vG, rfl, hO, hbc⟩
      obtain ⟨aG, cG, rfl⟩ := own_slG hO
      have HG2 := Lib.hid (HG1.out.keep hbc HG1.out.lt)
      have HS2 := Lib.hid (HS1.out.keep hbc)
      have HC2 := Lib.hid (HC1.out.keep hbc)
      have HB2 := Lib.hid (HB1.out.trans (hbc.mono hlo1))
      have hlo2 : w.heap.size ≤ _ := Nat.le_trans hlo1 hbc.size
      have FM2 := Lib.hid (FM1.out.keep hbc FM1.out.lt)
      have FG2 := Lib.hid (own_base hO hlo1)
      clear hO hbc
      go_simp
      refine hK _ _ (fun o _ => S8.of HG2.out o) ?_
      clear hK K'
      simp only [Act.put, List.getElem_toArray, List.getElem_cons_succ, List.getElem_cons_zero, List.setIfInBounds_toArray, List.set_cons_zero, List.set_cons_succ]
      refine C_ready (rs := [7, 10]) (by kernel_rfl) (by simp) ?_
      refine AllC.cons (i := 7) (o := _) rfl (by rfl) (fun K' hK => ?_) ?_
      · skip
        go_simp
        refine (clone_any ca cn cc cz w2 HC2.out.len hcn HC2.out.cells hcnil.out).mono ?_
        rintro e1 w3 ⟨vD, rfl, hO, hbc⟩
        obtain ⟨aD, cD, rfl⟩ := own_slG hO
        have NGD : Hid (∀ b, Value.ownBlock (.slice aG sn cG) = some b → Value.ownBlock (.slice aD cn cD) ≠ some b) := fun b e1 e2 => by
          have h1 := (FG2.out.lt b e1).2
          have h2 := (hO.lt b e2).1
          omega
        have HG3 := Lib.hid (HG2.out.keep hbc HG2.out.lt)
        have HS3 := Lib.hid (HS2.out.keep hbc)
        have HC3 := Lib.hid (HC2.out.keep hbc)
        have HB3 := Lib.hid (HB2.out.trans (hbc.mono hlo2))
        have hlo3 : w.heap.size ≤ _ := Nat.le_trans hlo2 hbc.size
        have FM3 := Lib.hid (FM2.out.keep hbc FM2.out.lt)
        have FG3 := Lib.hid (own_keep FG2.out hbc)
        have FD3 := Lib.hid (own_base hO hlo2)
        clear hO hbc
        go_simp
        refine hK _ _ (fun o _ => S8.of HG3.out o) ?_
        clear hK K'
        simp only [Act.put, List.getElem_toArray, List.getElem_cons_succ, List.getElem_cons_zero, List.setIfInBounds_toArray, List.set_cons_zero, List.set_cons_succ]
        refine C_ready (rs := [10]) (by kernel_rfl) (by simp) ?_
        refine AllC.cons (i := 10) (o := _) rfl (by rfl) (fun K' hK => ?_) ?_
        · skip
          have hal : Below w3.heap.size w3 (w3.alloc (.cells (Array.replicate P (Value.int .i64 0)) 3)) := (Below.refl _ _).alloc (Nat.le_refl _) _
          have FH4 := Lib.hid (rep_row w3 P)
          obtain ⟨bH, hbH⟩ : ∃ b, b = w3.heap.size := ⟨_, rfl⟩
          have hlH : w.heap.size ≤ bH := by omega
          rw [← hbH] at FH4
          have NGH : Hid (Value.ownBlock (.slice aG sn cG) ≠ some bH) := fun e => by
            have := (FG3.out.lt bH e).2
            omega
          have NDH : Hid (Value.ownBlock (.slice aD cn cD) ≠ some bH) := fun e => by
            have := (FD3.out.lt bH e).2
            omega
          have HG4 := Lib.hid (HG3.out.keep hal HG3.out.lt)
          have HS4 := Lib.hid (HS3.out.keep hal)
          have HC4 := Lib.hid (HC3.out.keep hal)
          have HB4 := Lib.hid (HB3.out.trans (hal.mono hlo3))
          have hlo4 : w.heap.size ≤ _ := Nat.le_trans hlo3 hal.size
          have FM4 := Lib.hid (FM3.out.keep hal FM3.out.lt)
          have FG4 := Lib.hid (own_keep FG3.out hal)
          have FD4 := Lib.hid (own_keep FD3.out hal)
          have hmk := HMI.out
          clear hal
          go_simp
          rw [← hbH]
          clear hbH hmk
          refine hK _ _ (fun o _ => S8.of HG4.out o) ?_
          clear hK K'
          generalize w3.alloc (.cells (Array.replicate P (Value.int .i64 0)) 3) = w4 at *
          simp only [Act.put, List.getElem_toArray, List.getElem_cons_succ, List.getElem_cons_zero, List.setIfInBounds_toArray, List.set_cons_zero, List.set_cons_succ]
          refine C_take (none) (i := 11) (oi := _) (v := ?_) rfl (by kernel_rfl) (by kernel_rfl) (by kernel_rfl) (by kernel_rfl) (fun _ _ _ h => h) S8.some (Or.inl ⟨by rfl, ?_⟩) (fun o _ => S8.of HG4.out o) ?_
          rotate_left
          · intro w hSw
            have s1 : w.cell? ⟨bg, 0, none⟩ = some (.int .i64 (P : Int)) := hSw
            go_simp
            try with_reducible rfl
          simp only [Act.put, List.getElem_toArray, List.getElem_cons_succ, List.getElem_cons_zero, List.setIfInBounds_toArray, List.set_cons_zero, List.set_cons_succ]
          refine C_ready (rs := [12]) (by kernel_rfl) (by simp) ?_
          refine AllC.cons (i := 12) (o := _) rfl (by rfl) (fun K' hK => ?_) ?_
          · skip
            have hal : Below w4.heap.size w4 (w4.alloc (.cells [.int .i64 (s : Int), .slice (some ⟨bM, 0, none⟩) P P, .slice aG sn cG, .slice aD cn cD, .slice (some ⟨bH, 0, none⟩) P P].toArray 58)) := (Below.refl _ _).alloc (Nat.le_refl _) _
            have FB5 := Lib.hid (row_alloc w4 58 [.int .i64 (s : Int), .slice (some ⟨bM, 0, none⟩) P P, .slice aG sn cG, .slice aD cn cD, .slice (some ⟨bH, 0, none⟩) P P])
            obtain ⟨bB, hbB⟩ : ∃ b, b = w4.heap.size := ⟨_, rfl⟩
            have hlB : w.heap.size ≤ bB := by omega
            rw [← hbB] at FB5
            have HG5 := Lib.hid (HG4.out.keep hal HG4.out.lt)
            have HS5 := Lib.hid (HS4.out.keep hal)
            have HC5 := Lib.hid (HC4.out.keep hal)
            have HB5 := Lib.hid (HB4.out.trans (hal.mono hlo4))
            have hlo5 : w.heap.size ≤ _ := Nat.le_trans hlo4 hal.size
            have FM5 := Lib.hid (FM4.out.keep hal FM4.out.lt)
            have FG5 := Lib.hid (own_keep FG4.out hal)
            have FD5 := Lib.hid (own_keep FD4.out hal)
            have FH5 := Lib.hid (FH4.out.keep hal FH4.out.lt)
            clear hal
            go_simp
            rw [← hbB]
            clear hbB
            refine hK _ _ (fun o _ => S8.of HG5.out o) ?_
            clear hK K'
            generalize w4.alloc (.cells #[.int .i64 (s : Int), .slice (some ⟨bM, 0, none⟩) P P, .slice aG sn cG, .slice aD cn cD, .slice (some ⟨bH, 0, none⟩) P P] 58) = w5 at *
            simp only [Act.put, List.getElem_toArray, List.getElem_cons_succ, List.getElem_cons_zero, List.setIfInBounds_toArray, List.set_cons_zero, List.set_cons_succ]
            refine C_take (none) (i := 13) (oi := _) (v := ?_) rfl (by kernel_rfl) (by kernel_rfl) (by kernel_rfl) (by kernel_rfl) (fun _ _ _ h => h) S8.some (Or.inl ⟨by rfl, ?_⟩) (fun o _ => S8.of HG5.out o) ?_
            rotate_left
            · intro w hSw
              have s1 : w.cell? ⟨bg, 0, none⟩ = some (.int .i64 (P : Int)) := hSw
              go_simp
              try with_reducible rfl
            simp only [Act.put, List.getElem_toArray, List.getElem_cons_succ, List.getElem_cons_zero, List.setIfInBounds_toArray, List.set_cons_zero, List.set_cons_succ]
            refine C_done (by kernel_rfl) ?_ _
            exact NoPanic.normal (hnext bB bM bH (.slice aG sn cG) (.slice aD cn cD) FB5.out FM5.out FG5.out FD5.out FH5.out NGD.out NGH.out NDH.out hlB hlM hlH HB5.out)
          exact AllC.nil
        exact AllC.nil
      refine AllC.cons (i := 10) (o := _) rfl (by rfl) (fun K' hK => ?_) ?_
      · skip
        have hal : Below w2.heap.size w2 (w2.alloc (.cells (Array.replicate P (Value.int .i64 0)) 3)) := (Below.refl _ _).alloc (Nat.le_refl _) _
        have FH3 := Lib.hid (rep_row w2 P)
        obtain ⟨bH, hbH⟩ : ∃ b, b = w2.heap.size := ⟨_, rfl⟩
        have hlH : w.heap.size ≤ bH := by omega
        rw [← hbH] at FH3
        have NGH : Hid (Value.ownBlock (.slice aG sn cG) ≠ some bH) := fun e => by
          have := (FG2.out.lt bH e).2
          omega
        have HG3 := Lib.hid (HG2.out.keep hal HG2.out.lt)
        have HS3 := Lib.hid (HS2.out.keep hal)
        have HC3 := Lib.hid (HC2.out.keep hal)
        have HB3 := Lib.hid (HB2.out.trans (hal.mono hlo2))
        have hlo3 : w.heap.size ≤ _ := Nat.le_trans hlo2 hal.size
        have FM3 := Lib.hid (FM2.out.keep hal FM2.out.lt)
        have FG3 := Lib.hid (own_keep FG2.out hal)
        have hmk := HMI.out
        clear hal
        go_simp
        rw [← hbH]
        clear hbH hmk
        refine hK _ _ (fun o _ => S8.of HG3.out o) ?_
        clear hK K'
        generalize w2.alloc (.cells (Array.replicate P (Value.int .i64 0)) 3) = w3 at *
        simp only [Act.put, List.getElem_toArray, List.getElem_cons_succ, List.getElem_cons_zero, List.setIfInBounds_toArray, List.set_cons_zero, List.set_cons_succ]
        refine C_ready (rs := [7]) (by kernel_rfl) (by simp) ?_
        refine AllC.cons (i := 7) (o := _) rfl (by rfl) (fun K' hK => ?_) ?_
        · skip
          go_simp
          refine (clone_any ca cn cc cz w3 HC3.out.len hcn HC3.out.cells hcnil.out).mono ?_
          rintro e1 w4 ⟨vD, rfl, hO, hbc⟩
          obtain ⟨aD, cD, rfl⟩ := own_slG hO
          have NGD : Hid (∀ b, Value.ownBlock (.slice aG sn cG) = some b → Value.ownBlock (.slice aD cn cD) ≠ some b) := fun b e1 e2 => by
            have h1 := (FG3.out.lt b e1).2
            have h2 := (hO.lt b e2).1
            omega
          have NDH : Hid (Value.ownBlock (.slice aD cn cD) ≠ some bH) := fun e => by
            have h1 := FH3.out.lt
            have h2 := (hO.lt bH e).1
            omega
          have HG4 := Lib.hid (HG3.out.keep hbc HG3.out.lt)
          have HS4 := Lib.hid (HS3.out.keep hbc)
          have HC4 := Lib.hid (HC3.out.keep hbc)
          have HB4 := Lib.hid (HB3.out.trans (hbc.mono hlo3))
          have hlo4 : w.heap.size ≤ _ := Nat.le_trans hlo3 hbc.size
          have FM4 := Lib.hid (FM3.out.keep hbc FM3.out.lt)
          have FG4 := Lib.hid (own_keep FG3.out hbc)
          have FH4 := Lib.hid (FH3.out.keep hbc FH3.out.lt)
          have FD4 := Lib.hid (own_base hO hlo3)
          clear hO hbc
          go_simp
          refine hK _ _ (fun o _ => S8.of HG4.out o) ?_
          clear hK K'
          simp only [Act.put, List.getElem_toArray, List.getElem_cons_succ, List.getElem_cons_zero, List.setIfInBounds_toArray, List.set_cons_zero, List.set_cons_succ]
          refine C_take (none) (i := 11) (oi := _) (v := ?_) rfl (by kernel_rfl) (by kernel_rfl) (by kernel_rfl) (by kernel_rfl) (fun _ _ _ h => h) S8.some (Or.inl ⟨by rfl, ?_⟩) (fun o _ => S8.of HG4.out o) ?_
          rotate_left
          · intro w hSw
            have s1 : w.cell? ⟨bg, 0, none⟩ = some (.int .i64 (P : Int)) := hSw
            go_simp
            try with_reducible rfl
          simp only [Act.put, List.getElem_toArray, List.getElem_cons_succ, List.getElem_cons_zero, List.setIfInBounds_toArray, List.set_cons_zero, List.set_cons_succ]
          refine C_ready (rs := [12]) (by kernel_rfl) (by simp) ?_
          refine AllC.cons (i := 12) (o := _) rfl (by rfl) (fun K' hK => ?_) ?_
          · skip
            have hal : Below w4.heap.size w4 (w4.alloc (.cells [.int .i64 (s : Int), .slice (some ⟨bM, 0, none⟩) P P, .slice aG sn cG, .slice aD cn cD, .slice (some ⟨bH, 0, none⟩) P P].toArray 58)) := (Below.refl _ _).alloc (Nat.le_refl _) _
            have FB5 := Lib.hid (row_alloc w4 58 [.int .i64 (s : Int), .slice (some ⟨bM, 0, none⟩) P P, .slice aG sn cG, .slice aD cn cD, .slice (some ⟨bH, 0, none⟩) P P])
            obtain ⟨bB, hbB⟩ : ∃ b, b = w4.heap.size := ⟨_, rfl⟩
            have hlB : w.heap.size ≤ bB := by omega
            rw [← hbB] at FB5
            have HG5 := Lib.hid (HG4.out.keep hal HG4.out.lt)
            have HS5 := Lib.hid (HS4.out.keep hal)
            have HC5 := Lib.hid (HC4.out.keep hal)
            have HB5 := Lib.hid (HB4.out.trans (hal.mono hlo4))
            have hlo5 : w.heap.size ≤ _ := Nat.le_trans hlo4 hal.size
            have FM5 := Lib.hid (FM4.out.keep hal FM4.out.lt)
            have FG5 := Lib.hid (own_keep FG4.out hal)
            have FD5 := Lib.hid (own_keep FD4.out hal)
            have FH5 := Lib.hid (FH4.out.keep hal FH4.out.lt)
            clear hal
            go_simp
            rw [← hbB]
            clear hbB
            refine hK _ _ (fun o _ => S8.of HG5.out o) ?_
            clear hK K'
            generalize w4.alloc (.cells #[.int .i64 (s : Int), .slice (some ⟨bM, 0, none⟩) P P, .slice aG sn cG, .slice aD cn cD, .slice (some ⟨bH, 0, none⟩) P P] 58) = w5 at *
            simp only [Act.put, List.getElem_toArray, List.getElem_cons_succ, List.getElem_cons_zero, List.setIfInBounds_toArray, List.set_cons_zero, List.set_cons_succ]
            refine C_take (none) (i := 13) (oi := _) (v := ?_) rfl (by kernel_rfl) (by kernel_rfl) (by kernel_rfl) (by kernel_rfl) (fun _ _ _ h => h) S8.some (Or.inl ⟨by rfl, ?_⟩) (fun o _ => S8.of HG5.out o) ?_
            rotate_left
            · intro w hSw
              have s1 : w.cell? ⟨bg, 0, none⟩ = some (.int .i64 (P : Int)) := hSw
              go_simp
              try with_reducible rfl
            simp only [Act.put, List.getElem_toArray, List.getElem_cons_succ, List.getElem_cons_zero, List.setIfInBounds_toArray, List.set_cons_zero, List.set_cons_succ]
            refine C_done (by kernel_rfl) ?_ _
            exact NoPanic.normal (hnext bB bM bH (.slice aG sn cG) (.slice aD cn cD) FB5.out FM5.out FG5.out FD5.out FH5.out NGD.out NGH.out NDH.out hlB hlM hlH HB5.out)
          exact AllC.nil
        exact AllC.nil
      exact AllC.nil
    refine AllC.cons (i := 10) (o := _) rfl (by rfl) (fun K' hK => ?_) ?_
    · skip
      have hal : Below w1.heap.size w1 (w1.alloc (.cells (Array.replicate P (Value.int .i64 0)) 3)) := (Below.refl _ _).alloc (Nat.le_refl _) _
      have FH2 := Lib.hid (rep_row w1 P)
      obtain ⟨bH, hbH⟩ : ∃ b, b = w1.heap.size := ⟨_, rfl⟩
      have hlH : w.heap.size ≤ bH := by omega
      rw [← hbH] at FH2
      have HG2 := Lib.hid (HG1.out.keep hal HG1.out.lt)
      have HS2 := Lib.hid (HS1.out.keep hal)
      have HC2 := Lib.hid (HC1.out.keep hal)
      have HB2 := Lib.hid (HB1.out.trans (hal.mono hlo1))
      have hlo2 : w.heap.size ≤ _ := Nat.le_trans hlo1 hal.size
      have FM2 := Lib.hid (FM1.out.keep hal FM1.out.lt)
      have hmk := HMI.out
      clear hal
      go_simp
      rw [← hbH]
      clear hbH hmk
      refine hK _ _ (fun o _ => S8.of HG2.out o) ?_
      clear hK K'
      generalize w1.alloc (.cells (Array.replicate P (Value.int .i64 0)) 3) = w2 at *
      simp only [Act.put, List.getElem_toArray, List.getElem_cons_succ, List.getElem_cons_zero, List.setIfInBounds_toArray, List.set_cons_zero, List.set_cons_succ]
      refine C_ready (rs := [5]) (by kernel_rfl) (by simp) ?_
      refine AllC.cons (i := 5) (o := _) rfl (by rfl) (fun K' hK => ?_) ?_
      · skip
        go_simp
        refine (clone_any sa sn sc sz w2 HS2.out.len hsn HS2.out.cells hsnil.out).mono ?_
        rintro e1 w3 ⟨vG, rfl, hO, hbc⟩
        obtain ⟨aG, cG, rfl⟩ := own_slG hO
        have NGH : Hid (Value.ownBlock (.slice aG sn cG) ≠ some bH) := fun e => by
          have h1 := FH2.out.lt
          have h2 := (hO.lt bH e).1
          omega
        have HG3 := Lib.hid (HG2.out.keep hbc HG2.out.lt)
        have HS3 := Lib.hid (HS2.out.keep hbc)
        have HC3 := Lib.hid (HC2.out.keep hbc)
        have HB3 := Lib.hid (HB2.out.trans (hbc.mono hlo2))
        have hlo3 : w.heap.size ≤ _ := Nat.le_trans hlo2 hbc.size
        have FM3 := Lib.hid (FM2.out.keep hbc FM2.out.lt)
        have FH3 := Lib.hid (FH2.out.keep hbc FH2.out.lt)
        have FG3 := Lib.hid (own_base hO hlo2)
        clear hO hbc
        go_simp
        refine hK _ _ (fun o _ => S8.of HG3.out o) ?_
        clear hK K'
        simp only [Act.put, List.getElem_toArray, List.getElem_cons_succ, List.getElem_cons_zero, List.setIfInBounds_toArray, List.set_cons_zero, List.set_cons_succ]
        refine C_ready (rs := [7]) (by kernel_rfl) (by simp) ?_
        refine AllC.cons (i := 7) (o := _) rfl (by rfl) (fun K' hK => ?_) ?_
        · skip
          go_simp
          refine (clone_any ca cn cc cz w3 HC3.out.len hcn HC3.out.cells hcnil.out).mono ?_
          rintro e1 w4 ⟨vD, rfl, hO, hbc⟩
          obtain ⟨aD, cD, rfl⟩ := own_slG hO
          have NDH : Hid (Value.ownBlock (.slice aD cn cD) ≠ some bH) := fun e => by
            have h1 := FH3.out.lt
            have h2 := (hO.lt bH e).1
            omega
          have NGD : Hid (∀ b, Value.ownBlock (.slice aG sn cG) = some b → Value.ownBlock (.slice aD cn cD) ≠ some b) := fun b e1 e2 => by
            have h1 := (FG3.out.lt b e1).2
            have h2 := (hO.lt b e2).1
            omega
          have HG4 := Lib.hid (HG3.out.keep hbc HG3.out.lt)
          have HS4 := Lib.hid (HS3.out.keep hbc)
          have HC4 := Lib.hid (HC3.out.keep hbc)
          have HB4 := Lib.hid (HB3.out.trans (hbc.mono hlo3))
          have hlo4 : w.heap.size ≤ _ := Nat.le_trans hlo3 hbc.size
          have FM4 := Lib.hid (FM3.out.keep hbc FM3.out.lt)
          have FH4 := Lib.hid (FH3.out.keep hbc FH3.out.lt)
          have FG4 := Lib.hid (own_keep FG3.out hbc)
          have FD4 := Lib.hid (own_base hO hlo3)
          clear hO hbc
          go_simp
          refine hK _ _ (fun o _ => S8.of HG4.out o) ?_
          clear hK K'
          simp only [Act.put, List.getElem_toArray, List.getElem_cons_succ, List.getElem_cons_zero, List.setIfInBounds_toArray, List.set_cons_zero, List.set_cons_succ]
          refine C_take (none) (i := 11) (oi := _) (v := ?_) rfl (by kernel_rfl) (by kernel_rfl) (by kernel_rfl) (by kernel_rfl) (fun _ _ _ h => h) S8.some (Or.inl ⟨by rfl, ?_⟩) (fun o _ => S8.of HG4.out o) ?_
          rotate_left
          · intro w hSw
            have s1 : w.cell? ⟨bg, 0, none⟩ = some (.int .i64 (P : Int)) := hSw
            go_simp
            try with_reducible rfl
          simp only [Act.put, List.getElem_toArray, List.getElem_cons_succ, List.getElem_cons_zero, List.setIfInBounds_toArray, List.set_cons_zero, List.set_cons_succ]
          refine C_ready (rs := [12]) (by kernel_rfl) (by simp) ?_
          refine AllC.cons (i := 12) (o := _) rfl (by rfl) (fun K' hK => ?_) ?_
          · skip
            have hal : Below w4.heap.size w4 (w4.alloc (.cells [.int .i64 (s : Int), .slice (some ⟨bM, 0, none⟩) P P, .slice aG sn cG, .slice aD cn cD, .slice (some ⟨bH, 0, none⟩) P P].toArray 58)) := (Below.refl _ _).alloc (Nat.le_refl _) _
            have FB5 := Lib.hid (row_alloc w4 58 [.int .i64 (s : Int), .slice (some ⟨bM, 0, none⟩) P P, .slice aG sn cG, .slice aD cn cD, .slice (some ⟨bH, 0, none⟩) P P])
            obtain ⟨bB, hbB⟩ : ∃ b, b = w4.heap.size := ⟨_, rfl⟩
            have hlB : w.heap.size ≤ bB := by omega
            rw [← hbB] at FB5
            have HG5 := Lib.hid (HG4.out.keep hal HG4.out.lt)
            have HS5 := Lib.hid (HS4.out.keep hal)
            have HC5 := Lib.hid (HC4.out.keep hal)
            have HB5 := Lib.hid (HB4.out.trans (hal.mono hlo4))
            have hlo5 : w.heap.size ≤ _ := Nat.le_trans hlo4 hal.size
            have FM5 := Lib.hid (FM4.out.keep hal FM4.out.lt)
            have FG5 := Lib.hid (own_keep FG4.out hal)
            have FD5 := Lib.hid (own_keep FD4.out hal)
            have FH5 := Lib.hid (FH4.out.keep hal FH4.out.lt)
            clear hal
            go_simp
            rw [← hbB]
            clear hbB
            refine hK _ _ (fun o _ => S8.of HG5.out o) ?_
            clear hK K'
            generalize w4.alloc (.cells #[.int .i64 (s : Int), .slice (some ⟨bM, 0, none⟩) P P, .slice aG sn cG, .slice aD cn cD, .slice (some ⟨bH, 0, none⟩) P P] 58) = w5 at *
            simp only [Act.put, List.getElem_toArray, List.getElem_cons_succ, List.getElem_cons_zero, List.setIfInBounds_toArray, List.set_cons_zero, List.set_cons_succ]
            refine C_take (none) (i := 13) (oi := _) (v := ?_) rfl (by kernel_rfl) (by kernel_rfl) (by kernel_rfl) (by kernel_rfl) (fun _ _ _ h => h) S8.some (Or.inl ⟨by rfl, ?_⟩) (fun o _ => S8.of HG5.out o) ?_
            rotate_left
            · intro w hSw
              have s1 : w.cell? ⟨bg, 0, none⟩ = some (.int .i64 (P : Int)) := hSw
              go_simp
              try with_reducible rfl
            simp only [Act.put, List.getElem_toArray, List.getElem_cons_succ, List.getElem_cons_zero, List.setIfInBounds_toArray, List.set_cons_zero, List.set_cons_succ]
            refine C_done (by kernel_rfl) ?_ _
            exact NoPanic.normal (hnext bB bM bH (.slice aG sn cG) (.slice aD cn cD) FB5.out FM5.out FG5.out FD5.out FH5.out NGD.out NGH.out NDH.out hlB hlM hlH HB5.out)
          exact AllC.nil
        exact AllC.nil
      exact AllC.nil
    exact AllC.nil
  refine AllC.cons (i := 5) (o := _) rfl (by rfl) (fun K' hK => ?_) ?_
  · skip
    go_simp
    refine (clone_any sa sn sc sz w0 HS0.out.len hsn HS0.out.cells hsnil.out).mono ?_
    rintro e1 w1 ⟨vG, rfl, hO, hbc⟩
    obtain ⟨aG, cG, rfl⟩ := own_slG hO
    have HG1 := Lib.hid (HG0.out.keep hbc HG0.out.lt)
    have HS1 := Lib.hid (HS0.out.keep hbc)
    have HC1 := Lib.hid (HC0.out.keep hbc)
    have HB1 := Lib.hid (HB0.out.trans (hbc.mono hlo0))
    have hlo1 : w.heap.size ≤ _ := Nat.le_trans hlo0 hbc.size
    have FG1 := Lib.hid (own_base hO hlo0)
    clear hO hbc
    go_simp
    refine hK _ _ (fun o _ => S8.of HG1.out o) ?_
    clear hK K'
    simp only [Act.put, List.getElem_toArray, List.getElem_cons_succ, List.getElem_cons_zero, List.setIfInBounds_toArray, List.set_cons_zero, List.set_cons_succ]
    refine C_ready (rs := [3, 7, 10]) (by kernel_rfl) (by simp) ?_
    refine AllC.cons (i := 3) (o := _) rfl (by rfl) (fun K' hK => ?_) ?_
    · skip
      have hal : Below w1.heap.size w1 (w1.alloc (.cells (Array.replicate P (Value.slice none 0 0)) 25)) := (Below.refl _ _).alloc (Nat.le_refl _) _
      have FM2 := Lib.hid (rep_rowS w1 P)
      obtain ⟨bM, hbM⟩ : ∃ b, b = w1.heap.size := ⟨_, rfl⟩
      have hlM : w.heap.size ≤ bM := by omega
      rw [← hbM] at FM2
      have HG2 := Lib.hid (HG1.out.keep hal HG1.out.lt)
      have HS2 := Lib.hid (HS1.out.keep hal)
      have HC2 := Lib.hid (HC1.out.keep hal)
      have HB2 := Lib.hid (HB1.out.trans (hal.mono hlo1))
      have hlo2 : w.heap.size ≤ _ := Nat.le_trans hlo1 hal.size
      have FG2 := Lib.hid (own_keep FG1.out hal)
      have hmk := HMS.out
      clear hal
      go_simp
      rw [← hbM]
      clear hbM hmk
      refine hK _ _ (fun o _ => S8.of HG2.out o) ?_
      clear hK K'
      generalize w1.alloc (.cells (Array.replicate P (Value.slice none 0 0)) 25) = w2 at *
      simp only [Act.put, List.getElem_toArray, List.getElem_cons_succ, List.getElem_cons_zero, List.setIfInBounds_toArray, List.set_cons_zero, List.set_cons_succ]
      refine C_ready (rs := [7, 10]) (by kernel_rfl) (by simp) ?_
      refine AllC.cons (i := 7) (o := _) rfl (by rfl) (fun K' hK => ?_) ?_
      · skip
        go_simp
        refine (clone_any ca cn cc cz w2 HC2.out.len hcn HC2.out.cells hcnil.out).mono ?_
        rintro e1 w3 ⟨vD, rfl, hO, hbc⟩
        obtain ⟨aD, cD, rfl⟩ := own_slG hO
        have NGD : Hid (∀ b, Value.ownBlock (.slice aG sn cG) = some b → Value.ownBlock (.slice aD cn cD) ≠ some b) := fun b e1 e2 => by
          have h1 := (FG2.out.lt b e1).2
          have h2 := (hO.lt b e2).1
          omega
        have HG3 := Lib.hid (HG2.out.keep hbc HG2.out.lt)
        have HS3 := Lib.hid (HS2.out.keep hbc)
        have HC3 := Lib.hid (HC2.out.keep hbc)
        have HB3 := Lib.hid (HB2.out.trans (hbc.mono hlo2))
        have hlo3 : w.heap.size ≤ _ := Nat.le_trans hlo2 hbc.size
        have FG3 := Lib.hid (own_keep FG2.out hbc)
        have FM3 := Lib.hid (FM2.out.keep hbc FM2.out.lt)
        have FD3 := Lib.hid (own_base hO hlo2)
        clear hO hbc
        go_simp
        refine hK _ _ (fun o _ => S8.of HG3.out o) ?_
        clear hK K'
        simp only [Act.put, List.getElem_toArray, List.getElem_cons_succ, List.getElem_cons_zero, List.setIfInBounds_toArray, List.set_cons_zero, List.set_cons_succ]
        refine C_ready (rs := [10]) (by kernel_rfl) (by simp) ?_
        refine AllC.cons (i := 10) (o := _) rfl (by rfl) (fun K' hK => ?_) ?_
        · skip
          have hal : Below w3.heap.size w3 (w3.alloc (.cells (Array.replicate P (Value.int .i64 0)) 3)) := (Below.refl _ _).alloc (Nat.le_refl _) _
          have FH4 := Lib.hid (rep_row w3 P)
          obtain ⟨bH, hbH⟩ : ∃ b, b = w3.heap.size := ⟨_, rfl⟩
          have hlH : w.heap.size ≤ bH := by omega
          rw [← hbH] at FH4
          have NGH : Hid (Value.ownBlock (.slice aG sn cG) ≠ some bH) := fun e => by
            have := (FG3.out.lt bH e).2
            omega
          have NDH : Hid (Value.ownBlock (.slice aD cn cD) ≠ some bH) := fun e => by
            have := (FD3.out.lt bH e).2
            omega
          have HG4 := Lib.hid (HG3.out.keep hal HG3.out.lt)
          have HS4 := Lib.hid (HS3.out.keep hal)
          have HC4 := Lib.hid (HC3.out.keep hal)
          have HB4 := Lib.hid (HB3.out.trans (hal.mono hlo3))
          have hlo4 : w.heap.size ≤ _ := Nat.le_trans hlo3 hal.size
          have FG4 := Lib.hid (own_keep FG3.out hal)
          have FM4 := Lib.hid (FM3.out.keep hal FM3.out.lt)
          have FD4 := Lib.hid (own_keep FD3.out hal)
          have hmk := HMI.out
          clear hal
          go_simp
          rw [← hbH]
          clear hbH hmk
          refine hK _ _ (fun o _ => S8.of HG4.out o) ?_
          clear hK K'
          generalize w3.alloc (.cells (Array.replicate P (Value.int .i64 0)) 3) = w4 at *
          simp only [Act.put, List.getElem_toArray, List.getElem_cons_succ, List.getElem_cons_zero, List.setIfInBounds_toArray, List.set_cons_zero, List.set_cons_succ]
          refine C_take (none) (i := 11) (oi := _) (v := ?_) rfl (by kernel_rfl) (by kernel_rfl) (by kernel_rfl) (by kernel_rfl) (fun _ _ _ h => h) S8.some (Or.inl ⟨by rfl, ?_⟩) (fun o _ => S8.of HG4.out o) ?_
          rotate_left
          · intro w hSw
            have s1 : w.cell? ⟨bg, 0, none⟩ = some (.int .i64 (P : Int)) := hSw
            go_simp
            try with_reducible rfl
          simp only [Act.put, List.getElem_toArray, List.getElem_cons_succ, List.getElem_cons_zero, List.setIfInBounds_toArray, List.set_cons_zero, List.set_cons_succ]
          refine C_ready (rs := [12]) (by kernel_rfl) (by simp) ?_
          refine AllC.cons (i := 12) (o := _) rfl (by rfl) (fun K' hK => ?_) ?_
          · skip
            have hal : Below w4.heap.size w4 (w4.alloc (.cells [.int .i64 (s : Int), .slice (some ⟨bM, 0, none⟩) P P, .slice aG sn cG, .slice aD cn cD, .slice (some ⟨bH, 0, none⟩) P P].toArray 58)) := (Below.refl _ _).alloc (Nat.le_refl _) _
            have FB5 := Lib.hid (row_alloc w4 58 [.int .i64 (s : Int), .slice (some ⟨bM, 0, none⟩) P P, .slice aG sn cG, .slice aD cn cD, .slice (some ⟨bH, 0, none⟩) P P])
            obtain ⟨bB, hbB⟩ : ∃ b, b = w4.heap.size := ⟨_, rfl⟩
            have hlB : w.heap.size ≤ bB := by omega
            rw [← hbB] at FB5
            have HG5 := Lib.hid (HG4.out.keep hal HG4.out.lt)
            have HS5 := Lib.hid (HS4.out.keep hal)
            have HC5 := Lib.hid (HC4.out.keep hal)
            have HB5 := Lib.hid (HB4.out.trans (hal.mono hlo4))
            have hlo5 : w.heap.size ≤ _ := Nat.le_trans hlo4 hal.size
            have FM5 := Lib.hid (FM4.out.keep hal FM4.out.lt)
            have FG5 := Lib.hid (own_keep FG4.out hal)
            have FD5 := Lib.hid (own_keep FD4.out hal)
            have FH5 := Lib.hid (FH4.out.keep hal FH4.out.lt)
            clear hal
            go_simp
            rw [← hbB]
            clear hbB
            refine hK _ _ (fun o _ => S8.of HG5.out o) ?_
            clear hK K'
            generalize w4.alloc (.cells #[.int .i64 (s : Int), .slice (some ⟨bM, 0, none⟩) P P, .slice aG sn cG, .slice aD cn cD, .slice (some ⟨bH, 0, none⟩) P P] 58) = w5 at *
            simp only [Act.put, List.getElem_toArray, List.getElem_cons_succ, List.getElem_cons_zero, List.setIfInBounds_toArray, List.set_cons_zero, List.set_cons_succ]
            refine C_take (none) (i := 13) (oi := _) (v := ?_) rfl (by kernel_rfl) (by kernel_rfl) (by kernel_rfl) (by kernel_rfl) (fun _ _ _ h => h) S8.some (Or.inl ⟨by rfl, ?_⟩) (fun o _ => S8.of HG5.out o) ?_
            rotate_left
            · intro w hSw
              have s1 : w.cell? ⟨bg, 0, none⟩ = some (.int .i64 (P : Int)) := hSw
              go_simp
              try with_reducible rfl
            simp only [Act.put, List.getElem_toArray, List.getElem_cons_succ, List.getElem_cons_zero, List.setIfInBounds_toArray, List.set_cons_zero, List.set_cons_succ]
            refine C_done (by kernel_rfl) ?_ _
            exact NoPanic.normal (hnext bB bM bH (.slice aG sn cG) (.slice aD cn cD) FB5.out FM5.out FG5.out FD5.out FH5.out NGD.out NGH.out NDH.out hlB hlM hlH HB5.out)
          exact AllC.nil
        exact AllC.nil
      refine AllC.cons (i := 10) (o := _) rfl (by rfl) (fun K' hK => ?_) ?_
      · skip
        have hal : Below w2.heap.size w2 (w2.alloc (.cells (Array.replicate P (Value.int .i64 0)) 3)) := (Below.refl _ _).alloc (Nat.le_refl _) _
        have FH3 := Lib.hid (rep_row w2 P)
        obtain ⟨bH, hbH⟩ : ∃ b, b = w2.heap.size := ⟨_, rfl⟩
        have hlH : w.heap.size ≤ bH := by omega
        rw [← hbH] at FH3
        have NGH : Hid (Value.ownBlock (.slice aG sn cG) ≠ some bH) := fun e => by
          have := (FG2.out.lt bH e).2
          omega
        have HG3 := Lib.hid (HG2.out.keep hal HG2.out.lt)
        have HS3 := Lib.hid (HS2.out.keep hal)
        have HC3 := Lib.hid (HC2.out.keep hal)
        have HB3 := Lib.hid (HB2.out.trans (hal.mono hlo2))
        have hlo3 : w.heap.size ≤ _ := Nat.le_trans hlo2 hal.size
        have FG3 := Lib.hid (own_keep FG2.out hal)
        have FM3 := Lib.hid (FM2.out.keep hal FM2.out.lt)
        have hmk := HMI.out
        clear hal
        go_simp
        rw [← hbH]
        clear hbH hmk
        refine hK _ _ (fun o _ => S8.of HG3.out o) ?_
        clear hK K'
        generalize w2.alloc (.cells (Array.replicate P (Value.int .i64 0)) 3) = w3 at *
        simp only [Act.put, List.getElem_toArray, List.getElem_cons_succ, List.getElem_cons_zero, List.setIfInBounds_toArray, List.set_cons_zero, List.set_cons_succ]
        refine C_ready (rs := [7]) (by kernel_rfl) (by simp) ?_
        refine AllC.cons (i := 7) (o := _) rfl (by rfl) (fun K' hK => ?_) ?_
        · skip
          go_simp
          refine (clone_any ca cn cc cz w3 HC3.out.len hcn HC3.out.cells hcnil.out).mono ?_
          rintro e1 w4 ⟨vD, rfl, hO, hbc⟩
          obtain ⟨aD, cD, rfl⟩ := own_slG hO
          have NGD : Hid (∀ b, Value.ownBlock (.slice aG sn cG) = some b → Value.ownBlock (.slice aD cn cD) ≠ some b) := fun b e1 e2 => by
            have h1 := (FG3.out.lt b e1).2
            have h2 := (hO.lt b e2).1
            omega
          have NDH : Hid (Value.ownBlock (.slice aD cn cD) ≠ some bH) := fun e => by
            have h1 := FH3.out.lt
            have h2 := (hO.lt bH e).1
            omega
          have HG4 := Lib.hid (HG3.out.keep hbc HG3.out.lt)
          have HS4 := Lib.hid (HS3.out.keep hbc)
          have HC4 := Lib.hid (HC3.out.keep hbc)
          have HB4 := Lib.hid (HB3.out.trans (hbc.mono hlo3))
          have hlo4 : w.heap.size ≤ _ := Nat.le_trans hlo3 hbc.size
          have FG4 := Lib.hid (own_keep FG3.out hbc)
          have FM4 := Lib.hid (FM3.out.keep hbc FM3.out.lt)
          have FH4 := Lib.hid (FH3.out.keep hbc FH3.out.lt)
          have FD4 := Lib.hid (own_base hO hlo3)
          clear hO hbc
          go_simp
          refine hK _ _ (fun o _ => S8.of HG4.out o) ?_
          clear hK K'
          simp only [Act.put, List.getElem_toArray, List.getElem_cons_succ, List.getElem_cons_zero, List.setIfInBounds_toArray, List.set_cons_zero, List.set_cons_succ]
          refine C_take (none) (i := 11) (oi := _) (v := ?_) rfl (by kernel_rfl) (by kernel_rfl) (by kernel_rfl) (by kernel_rfl) (fun _ _ _ h => h) S8.some (Or.inl ⟨by rfl, ?_⟩) (fun o _ => S8.of HG4.out o) ?_
          rotate_left
          · intro w hSw
            have s1 : w.cell? ⟨bg, 0, none⟩ = some (.int .i64 (P : Int)) := hSw
            go_simp
            try with_reducible rfl
          simp only [Act.put, List.getElem_toArray, List.getElem_cons_succ, List.getElem_cons_zero, List.setIfInBounds_toArray, List.set_cons_zero, List.set_cons_succ]
          refine C_ready (rs := [12]) (by kernel_rfl) (by simp) ?_
          refine AllC.cons (i := 12) (o := _) rfl (by rfl) (fun K' hK => ?_) ?_
          · skip
            have hal : Below w4.heap.size w4 (w4.alloc (.cells [.int .i64 (s : Int), .slice (some ⟨bM, 0, none⟩) P P, .slice aG sn cG, .slice aD cn cD, .slice (some ⟨bH, 0, none⟩) P P].toArray 58)) := (Below.refl _ _).alloc (Nat.le_refl _) _
            have FB5 := Lib.hid (row_alloc w4 58 [.int .i64 (s : Int), .slice (some ⟨bM, 0, none⟩) P P, .slice aG sn cG, .slice aD cn cD, .slice (some ⟨bH, 0, none⟩) P P])
            obtain ⟨bB, hbB⟩ : ∃ b, b = w4.heap.size := ⟨_, rfl⟩
            have hlB : w.heap.size ≤ bB := by omega
            rw [← hbB] at FB5
            have HG5 := Lib.hid (HG4.out.keep hal HG4.out.lt)
            have HS5 := Lib.hid (HS4.out.keep hal)
            have HC5 := Lib.hid (HC4.out.keep hal)
            have HB5 := Lib.hid (HB4.out.trans (hal.mono hlo4))
            have hlo5 : w.heap.size ≤ _ := Nat.le_trans hlo4 hal.size
            have FM5 := Lib.hid (FM4.out.keep hal FM4.out.lt)
            have FG5 := Lib.hid (own_keep FG4.out hal)
            have FD5 := Lib.hid (own_keep FD4.out hal)
            have FH5 := Lib.hid (FH4.out.keep hal FH4.out.lt)
            clear hal
            go_simp
            rw [← hbB]
            clear hbB
            refine hK _ _ (fun o _ => S8.of HG5.out o) ?_
            clear hK K'
            generalize w4.alloc (.cells #[.int .i64 (s : Int), .slice (some ⟨bM, 0, none⟩) P P, .slice aG sn cG, .slice aD cn cD, .slice (some ⟨bH, 0, none⟩) P P] 58) = w5 at *
            simp only [Act.put, List.getElem_toArray, List.getElem_cons_succ, List.getElem_cons_zero, List.setIfInBounds_toArray, List.set_cons_zero, List.set_cons_succ]
            refine C_take (none) (i := 13) (oi := _) (v := ?_) rfl (by kernel_rfl) (by kernel_rfl) (by kernel_rfl) (by kernel_rfl) (fun _ _ _ h => h) S8.some (Or.inl ⟨by rfl, ?_⟩) (fun o _ => S8.of HG5.out o) ?_
            rotate_left
            · intro w hSw
              have s1 : w.cell? ⟨bg, 0, none⟩ = some (.int .i64 (P : Int)) := hSw
              go_simp
              try with_reducible rfl
            simp only [Act.put, List.getElem_toArray, List.getElem_cons_succ, List.getElem_cons_zero, List.setIfInBounds_toArray, List.set_cons_zero, List.set_cons_succ]
            refine C_done (by kernel_rfl) ?_ _
            exact NoPanic.normal (hnext bB bM bH (.slice aG sn cG) (.slice aD cn cD) FB5.out FM5.out FG5.out FD5.out FH5.out NGD.out NGH.out NDH.out hlB hlM hlH HB5.out)
          exact AllC.nil
        exact AllC.nil
      exact AllC.nil
    refine AllC.cons (i := 7) (o := _) rfl (by rfl) (fun K' hK => ?_) ?_
    · skip
      go_simp
      refine (clone_any ca cn cc cz w1 HC1.out.len hcn HC1.out.cells hcnil.out).mono ?_
      rintro e1 w2 ⟨vD, rfl, hO, hbc⟩
      obtain ⟨aD, cD, rfl⟩ := own_slG hO
      have NGD : Hid (∀ b, Value.ownBlock (.slice aG sn cG) = some b → Value.ownBlock (.slice aD cn cD) ≠ some b) := fun b e1 e2 => by
        have h1 := (FG1.out.lt b e1).2
        have h2 := (hO.lt b e2).1
        omega
      have HG2 := Lib.hid (HG1.out.keep hbc HG1.out.lt)
      have HS2 := Lib.hid (HS1.out.keep hbc)
      have HC2 := Lib.hid (HC1.out.keep hbc)
      have HB2 := Lib.hid (HB1.out.trans (hbc.mono hlo1))
      have hlo2 : w.heap.size ≤ _ := Nat.le_trans hlo1 hbc.size
      have FG2 := Lib.hid (own_keep FG1.out hbc)
      have FD2 := Lib.hid (own_base hO hlo1)
      clear hO hbc
      go_simp
      refine hK _ _ (fun o _ => S8.of HG2.out o) ?_
      clear hK K'
      simp only [Act.put, List.getElem_toArray, List.getElem_cons_succ, List.getElem_cons_zero, List.setIfInBounds_toArray, List.set_cons_zero, List.set_cons_succ]
      refine C_ready (rs := [3, 10]) (by kernel_rfl) (by simp) ?_
      refine AllC.cons (i := 3) (o := _) rfl (by rfl) (fun K' hK => ?_) ?_
      · skip
        have hal : Below w2.heap.size w2 (w2.alloc (.cells (Array.replicate P (Value.slice none 0 0)) 25)) := (Below.refl _ _).alloc (Nat.le_refl _) _
        have FM3 := Lib.hid (rep_rowS w2 P)
        obtain ⟨bM, hbM⟩ : ∃ b, b = w2.heap.size := ⟨_, rfl⟩
        have hlM : w.heap.size ≤ bM := by omega
        rw [← hbM] at FM3
        have HG3 := Lib.hid (HG2.out.keep hal HG2.out.lt)
        have HS3 := Lib.hid (HS2.out.keep hal)
        have HC3 := Lib.hid (HC2.out.keep hal)
        have HB3 := Lib.hid (HB2.out.trans (hal.mono hlo2))
        have hlo3 : w.heap.size ≤ _ := Nat.le_trans hlo2 hal.size
        have FG3 := Lib.hid (own_keep FG2.out hal)
        have FD3 := Lib.hid (own_keep FD2.out hal)
        have hmk := HMS.out
        clear hal
        go_simp
        rw [← hbM]
        clear hbM hmk
        refine hK _ _ (fun o _ => S8.of HG3.out o) ?_
        clear hK K'
        generalize w2.alloc (.cells (Array.replicate P (Value.slice none 0 0)) 25) = w3 at *
        simp only [Act.put, List.getElem_toArray, List.getElem_cons_succ, List.getElem_cons_zero, List.setIfInBounds_toArray, List.set_cons_zero, List.set_cons_succ]
        refine C_ready (rs := [10]) (by kernel_rfl) (by simp) ?_
        refine AllC.cons (i := 10) (o := _) rfl (by rfl) (fun K' hK => ?_) ?_
        · skip
          have hal : Below w3.heap.size w3 (w3.alloc (.cells (Array.replicate P (Value.int .i64 0)) 3)) := (Below.refl _ _).alloc (Nat.le_refl _) _
          have FH4 := Lib.hid (rep_row w3 P)
          obtain ⟨bH, hbH⟩ : ∃ b, b = w3.heap.size := ⟨_, rfl⟩
          have hlH : w.heap.size ≤ bH := by omega
          rw [← hbH] at FH4
          have NGH : Hid (Value.ownBlock (.slice aG sn cG) ≠ some bH) := fun e => by
            have := (FG3.out.lt bH e).2
            omega
          have NDH : Hid (Value.ownBlock (.slice aD cn cD) ≠ some bH) := fun e => by
            have := (FD3.out.lt bH e).2
            omega
          have HG4 := Lib.hid (HG3.out.keep hal HG3.out.lt)
          have HS4 := Lib.hid (HS3.out.keep hal)
          have HC4 := Lib.hid (HC3.out.keep hal)
          have HB4 := Lib.hid (HB3.out.trans (hal.mono hlo3))
          have hlo4 : w.heap.size ≤ _ := Nat.le_trans hlo3 hal.size
          have FG4 := Lib.hid (own_keep FG3.out hal)
          have FD4 := Lib.hid (own_keep FD3.out hal)
          have FM4 := Lib.hid (FM3.out.keep hal FM3.out.lt)
          have hmk := HMI.out
          clear hal
          go_simp
          rw [← hbH]
          clear hbH hmk
          refine hK _ _ (fun o _ => S8.of HG4.out o) ?_
          clear hK K'
          generalize w3.alloc (.cells (Array.replicate P (Value.int .i64 0)) 3) = w4 at *
          simp only [Act.put, List.getElem_toArray, List.getElem_cons_succ, List.getElem_cons_zero, List.setIfInBounds_toArray, List.set_cons_zero, List.set_cons_succ]
          refine C_take (none) (i := 11) (oi := _) (v := ?_) rfl (by kernel_rfl) (by kernel_rfl) (by kernel_rfl) (by kernel_rfl) (fun _ _ _ h => h) S8.some (Or.inl ⟨by rfl, ?_⟩) (fun o _ => S8.of HG4.out o) ?_
          rotate_left
          · intro w hSw
            have s1 : w.cell? ⟨bg, 0, none⟩ = some (.int .i64 (P : Int)) := hSw
            go_simp
            try with_reducible rfl
          simp only [Act.put, List.getElem_toArray, List.getElem_cons_succ, List.getElem_cons_zero, List.setIfInBounds_toArray, List.set_cons_zero, List.set_cons_succ]
          refine C_ready (rs := [12]) (by kernel_rfl) (by simp) ?_
          refine AllC.cons (i := 12) (o := _) rfl (by rfl) (fun K' hK => ?_) ?_
          · skip
            have hal : Below w4.heap.size w4 (w4.alloc (.cells [.int .i64 (s : Int), .slice (some ⟨bM, 0, none⟩) P P, .slice aG sn cG, .slice aD cn cD, .slice (some ⟨bH, 0, none⟩) P P].toArray 58)) := (Below.refl _ _).alloc (Nat.le_refl _) _
            have FB5 := Lib.hid (row_alloc w4 58 [.int .i64 (s : Int), .slice (some ⟨bM, 0, none⟩) P P, .slice aG sn cG, .slice aD cn cD, .slice (some ⟨bH, 0, none⟩) P P])
            obtain ⟨bB, hbB⟩ : ∃ b, b = w4.heap.size := ⟨_, rfl⟩
            have hlB : w.heap.size ≤ bB := by omega
            rw [← hbB] at FB5
            have HG5 := Lib.hid (HG4.out.keep hal HG4.out.lt)
            have HS5 := Lib.hid (HS4.out.keep hal)
            have HC5 := Lib.hid (HC4.out.keep hal)
            have HB5 := Lib.hid (HB4.out.trans (hal.mono hlo4))
            have hlo5 : w.heap.size ≤ _ := Nat.le_trans hlo4 hal.size
            have FM5 := Lib.hid (FM4.out.keep hal FM4.out.lt)
            have FG5 := Lib.hid (own_keep FG4.out hal)
            have FD5 := Lib.hid (own_keep FD4.out hal)
            have FH5 := Lib.hid (FH4.out.keep hal FH4.out.lt)
            clear hal
            go_simp
            rw [← hbB]
            clear hbB
            refine hK _ _ (fun o _ => S8.of HG5.out o) ?_
            clear hK K'
            generalize w4.alloc (.cells #[.int .i64 (s : Int), .slice (some ⟨bM, 0, none⟩) P P, .slice aG sn cG, .slice aD cn cD, .slice (some ⟨bH, 0, none⟩) P P] 58) = w5 at *
            simp only [Act.put, List.getElem_toArray, List.getElem_cons_succ, List.getElem_cons_zero, List.setIfInBounds_toArray, List.set_cons_zero, List.set_cons_succ]
            refine C_take (none) (i := 13) (oi := _) (v := ?_) rfl (by kernel_rfl) (by kernel_rfl) (by kernel_rfl) (by kernel_rfl) (fun _ _ _ h => h) S8.some (Or.inl ⟨by rfl, ?_⟩) (fun o _ => S8.of HG5.out o) ?_
            rotate_left
            · intro w hSw
              have s1 : w.cell? ⟨bg, 0, none⟩ = some (.int .i64 (P : Int)) := hSw
              go_simp
              try with_reducible rfl
            simp only [Act.put, List.getElem_toArray, List.getElem_cons_succ, List.getElem_cons_zero, List.setIfInBounds_toArray, List.set_cons_zero, List.set_cons_succ]
            refine C_done (by kernel_rfl) ?_ _
            exact NoPanic.normal (hnext bB bM bH (.slice aG sn cG) (.slice aD cn cD) FB5.out FM5.out FG5.out FD5.out FH5.out NGD.out NGH.out NDH.out hlB hlM hlH HB5.out)
          exact AllC.nil
        exact AllC.nil
      refine AllC.cons (i := 10) (o := _) rfl (by rfl) (fun K' hK => ?_) ?_
      · skip
        have hal : Below w2.heap.size w2 (w2.alloc (.cells (Array.replicate P (Value.int .i64 0)) 3)) := (Below.refl _ _).alloc (Nat.le_refl _) _
        have FH3 := Lib.hid (rep_row w2 P)
        obtain ⟨bH, hbH⟩ : ∃ b, b = w2.heap.size := ⟨_, rfl⟩
        have hlH : w.heap.size ≤ bH := by omega
        rw [← hbH] at FH3
        have NGH : Hid (Value.ownBlock (.slice aG sn cG) ≠ some bH) := fun e => by
          have := (FG2.out.lt bH e).2
          omega
        have NDH : Hid (Value.ownBlock (.slice aD cn cD) ≠ some bH) := fun e => by
          have := (FD2.out.lt bH e).2
          omega
        have HG3 := Lib.hid (HG2.out.keep hal HG2.out.lt)
        have HS3 := Lib.hid (HS2.out.keep hal)
        have HC3 := Lib.hid (HC2.out.keep hal)
        have HB3 := Lib.hid (HB2.out.trans (hal.mono hlo2))
        have hlo3 : w.heap.size ≤ _ := Nat.le_trans hlo2 hal.size
        have FG3 := Lib.hid (own_keep FG2.out hal)
        have FD3 := Lib.hid (own_keep FD2.out hal)
        have hmk := HMI.out
        clear hal
        go_simp
        rw [← hbH]
        clear hbH hmk
        refine hK _ _ (fun o _ => S8.of HG3.out o) ?_
        clear hK K'
        generalize w2.alloc (.cells (Array.replicate P (Value.int .i64 0)) 3) = w3 at *
        simp only [Act.put, List.getElem_toArray, List.getElem_cons_succ, List.getElem_cons_zero, List.setIfInBounds_toArray, List.set_cons_zero, List.set_cons_succ]
        refine C_ready (rs := [3]) (by kernel_rfl) (by simp) ?_
        refine AllC.cons (i := 3) (o := _) rfl (by rfl) (fun K' hK => ?_) ?_
        · skip
          have hal : Below w3.heap.size w3 (w3.alloc (.cells (Array.replicate P (Value.slice none 0 0)) 25)) := (Below.refl _ _).alloc (Nat.le_refl _) _
          have FM4 := Lib.hid (rep_rowS w3 P)
          obtain ⟨bM, hbM⟩ : ∃ b, b = w3.heap.size := ⟨_, rfl⟩
          have hlM : w.heap.size ≤ bM := by omega
          rw [← hbM] at FM4
          have HG4 := Lib.hid (HG3.out.keep hal HG3.out.lt)
          have HS4 := Lib.hid (HS3.out.keep hal)
          have HC4 := Lib.hid (HC3.out.keep hal)
          have HB4 := Lib.hid (HB3.out.trans (hal.mono hlo3))
          have hlo4 : w.heap.size ≤ _ := Nat.le_trans hlo3 hal.size
          have FG4 := Lib.hid (own_keep FG3.out hal)
          have FD4 := Lib.hid (own_keep FD3.out hal)
          have FH4 := Lib.hid (FH3.out.keep hal FH3.out.lt)
          have hmk := HMS.out
          clear hal
          go_simp
          rw [← hbM]
          clear hbM hmk
          refine hK _ _ (fun o _ => S8.of HG4.out o) ?_
          clear hK K'
          generalize w3.alloc (.cells (Array.replicate P (Value.slice none 0 0)) 25) = w4 at *
          simp only [Act.put, List.getElem_toArray, List.getElem_cons_succ, List.getElem_cons_zero, List.setIfInBounds_toArray, List.set_cons_zero, List.set_cons_succ]
          refine C_take (none) (i := 11) (oi := _) (v := ?_) rfl (by kernel_rfl) (by kernel_rfl) (by kernel_rfl) (by kernel_rfl) (fun _ _ _ h => h) S8.some (Or.inl ⟨by rfl, ?_⟩) (fun o _ => S8.of HG4.out o) ?_
          rotate_left
          · intro w hSw
            have s1 : w.cell? ⟨bg, 0, none⟩ = some (.int .i64 (P : Int)) := hSw
            go_simp
            try with_reducible rfl
          simp only [Act.put, List.getElem_toArray, List.getElem_cons_succ, List.getElem_cons_zero, List.setIfInBounds_toArray, List.set_cons_zero, List.set_cons_succ]
          refine C_ready (rs := [12]) (by kernel_rfl) (by simp) ?_
          refine AllC.cons (i := 12) (o := _) rfl (by rfl) (fun K' hK => ?_) ?_
          · skip
            have hal : Below w4.heap.size w4 (w4.alloc (.cells [.int .i64 (s : Int), .slice (some ⟨bM, 0, none⟩) P P, .slice aG sn cG, .slice aD cn cD, .slice (some ⟨bH, 0, none⟩) P P].toArray 58)) := (Below.refl _ _).alloc (Nat.le_refl _) _
            have FB5 := Lib.hid (row_alloc w4 58 [.int .i64 (s : Int), .slice (some ⟨bM, 0, none⟩) P P, .slice aG sn cG, .slice aD cn cD, .slice (some ⟨bH, 0, none⟩) P P])
            obtain ⟨bB, hbB⟩ : ∃ b, b = w4.heap.size := ⟨_, rfl⟩
            have hlB : w.heap.size ≤ bB := by omega
            rw [← hbB] at FB5
            have HG5 := Lib.hid (HG4.out.keep hal HG4.out.lt)
            have HS5 := Lib.hid (HS4.out.keep hal)
            have HC5 := Lib.hid (HC4.out.keep hal)
            have HB5 := Lib.hid (HB4.out.trans (hal.mono hlo4))
            have hlo5 : w.heap.size ≤ _ := Nat.le_trans hlo4 hal.size
            have FM5 := Lib.hid (FM4.out.keep hal FM4.out.lt)
            have FG5 := Lib.hid (own_keep FG4.out hal)
            have FD5 := Lib.hid (own_keep FD4.out hal)
            have FH5 := Lib.hid (FH4.out.keep hal FH4.out.lt)
            clear hal
            go_simp
            rw [← hbB]
            clear hbB
            refine hK _ _ (fun o _ => S8.of HG5.out o) ?_
            clear hK K'
            generalize w4.alloc (.cells #[.int .i64 (s : Int), .slice (some ⟨bM, 0, none⟩) P P, .slice aG sn cG, .slice aD cn cD, .slice (some ⟨bH, 0, none⟩) P P] 58) = w5 at *
            simp only [Act.put, List.getElem_toArray, List.getElem_cons_succ, List.getElem_cons_zero, List.setIfInBounds_toArray, List.set_cons_zero, List.set_cons_succ]
            refine C_take (none) (i := 13) (oi := _) (v := ?_) rfl (by kernel_rfl) (by kernel_rfl) (by kernel_rfl) (by kernel_rfl) (fun _ _ _ h => h) S8.some (Or.inl ⟨by rfl, ?_⟩) (fun o _ => S8.of HG5.out o) ?_
            rotate_left
            · intro w hSw
              have s1 : w.cell? ⟨bg, 0, none⟩ = some (.int .i64 (P : Int)) := hSw
              go_simp
              try with_reducible rfl
            simp only [Act.put, List.getElem_toArray, List.getElem_cons_succ, List.getElem_cons_zero, List.setIfInBounds_toArray, List.set_cons_zero, List.set_cons_succ]
            refine C_done (by kernel_rfl) ?_ _
            exact NoPanic.normal (hnext bB bM bH (.slice aG sn cG) (.slice aD cn cD) FB5.out FM5.out FG5.out FD5.out FH5.out NGD.out NGH.out NDH.out hlB hlM hlH HB5.out)
          exact AllC.nil
        exact AllC.nil
      exact AllC.nil
    refine AllC.cons (i := 10) (o := _) rfl (by rfl) (fun K' hK => ?_) ?_
    · skip
      have hal : Below w1.heap.size w1 (w1.alloc (.cells (Array.replicate P (Value.int .i64 0)) 3)) := (Below.refl _ _).alloc (Nat.le_refl _) _
      have FH2 := Lib.hid (rep_row w1 P)
      obtain ⟨bH, hbH⟩ : ∃ b, b = w1.heap.size := ⟨_, rfl⟩
      have hlH : w.heap.size ≤ bH := by omega
      rw [← hbH] at FH2
      have NGH : Hid (Value.ownBlock (.slice aG sn cG) ≠ some bH) := fun e => by
        have := (FG1.out.lt bH e).2
        omega
      have HG2 := Lib.hid (HG1.out.keep hal HG1.out.lt)
      have HS2 := Lib.hid (HS1.out.keep hal)
      have HC2 := Lib.hid (HC1.out.keep hal)
      have HB2 := Lib.hid (HB1.out.trans (hal.mono hlo1))
      have hlo2 : w.heap.size ≤ _ := Nat.le_trans hlo1 hal.size
      have FG2 := Lib.hid (own_keep FG1.out hal)
      have hmk := HMI.out
      clear hal
      go_simp
      rw [← hbH]
      clear hbH hmk
      refine hK _ _ (fun o _ => S8.of HG2.out o) ?_
      clear hK K'
      generalize w1.alloc (.cells (Array.replicate P (Value.int .i64 0)) 3) = w2 at *
      simp only [Act.put, List.getElem_toArray, List.getElem_cons_succ, List.getElem_cons_zero, List.setIfInBounds_toArray, List.set_cons_zero, List.set_cons_succ]
      refine C_ready (rs := [3, 7]) (by kernel_rfl) (by simp) ?_
      refine AllC.cons (i := 3) (o := _) rfl (by rfl) (fun K' hK => ?_) ?_
      · skip
        have hal : Below w2.heap.size w2 (w2.alloc (.cells (Array.replicate P (Value.slice none 0 0)) 25)) := (Below.refl _ _).alloc (Nat.le_refl _) _
        have FM3 := Lib.hid (rep_rowS w2 P)
        obtain ⟨bM, hbM⟩ : ∃ b, b = w2.heap.size := ⟨_, rfl⟩
        have hlM : w.heap.size ≤ bM := by omega
        rw [← hbM] at FM3
        have HG3 := Lib.hid (HG2.out.keep hal HG2.out.lt)
        have HS3 := Lib.hid (HS2.out.keep hal)
        have HC3 := Lib.hid (HC2.out.keep hal)
        have HB3 := Lib.hid (HB2.out.trans (hal.mono hlo2))
        have hlo3 : w.heap.size ≤ _ := Nat.le_trans hlo2 hal.size
        have FG3 := Lib.hid (own_keep FG2.out hal)
        have FH3 := Lib.hid (FH2.out.keep hal FH2.out.lt)
        have hmk := HMS.out
        clear hal
        go_simp
        rw [← hbM]
        clear hbM hmk
        refine hK _ _ (fun o _ => S8.of HG3.out o) ?_
        clear hK K'
        generalize w2.alloc (.cells (Array.replicate P (Value.slice none 0 0)) 25) = w3 at *
        simp only [Act.put, List.getElem_toArray, List.getElem_cons_succ, List.getElem_cons_zero, List.setIfInBounds_toArray, List.set_cons_zero, List.set_cons_succ]
        refine C_ready (rs := [7]) (by kernel_rfl) (by simp) ?_
        refine AllC.cons (i := 7) (o := _) rfl (by rfl) (fun K' hK => ?_) ?_
        · skip
          go_simp
          refine (clone_any ca cn cc cz w3 HC3.out.len hcn HC3.out.cells hcnil.out).mono ?_
          rintro e1 w4 ⟨vD, rfl, hO, hbc⟩
          obtain ⟨aD, cD, rfl⟩ := own_slG hO
          have NGD : Hid (∀ b, Value.ownBlock (.slice aG sn cG) = some b → Value.ownBlock (.slice aD cn cD) ≠ some b) := fun b e1 e2 => by
            have h1 := (FG3.out.lt b e1).2
            have h2 := (hO.lt b e2).1
            omega
          have NDH : Hid (Value.ownBlock (.slice aD cn cD) ≠ some bH) := fun e => by
            have h1 := FH3.out.lt
            have h2 := (hO.lt bH e).1
            omega
          have HG4 := Lib.hid (HG3.out.keep hbc HG3.out.lt)
          have HS4 := Lib.hid (HS3.out.keep hbc)
          have HC4 := Lib.hid (HC3.out.keep hbc)
          have HB4 := Lib.hid (HB3.out.trans (hbc.mono hlo3))
          have hlo4 : w.heap.size ≤ _ := Nat.le_trans hlo3 hbc.size
          have FG4 := Lib.hid (own_keep FG3.out hbc)
          have FH4 := Lib.hid (FH3.out.keep hbc FH3.out.lt)
          have FM4 := Lib.hid (FM3.out.keep hbc FM3.out.lt)
          have FD4 := Lib.hid (own_base hO hlo3)
          clear hO hbc
          go_simp
          refine hK _ _ (fun o _ => S8.of HG4.out o) ?_
          clear hK K'
          simp only [Act.put, List.getElem_toArray, List.getElem_cons_succ, List.getElem_cons_zero, List.setIfInBounds_toArray, List.set_cons_zero, List.set_cons_succ]
          refine C_take (none) (i := 11) (oi := _) (v := ?_) rfl (by kernel_rfl) (by kernel_rfl) (by kernel_rfl) (by kernel_rfl) (fun _ _ _ h => h) S8.some (Or.inl ⟨by rfl, ?_⟩) (fun o _ => S8.of HG4.out o) ?_
          rotate_left
          · intro w hSw
            have s1 : w.cell? ⟨bg, 0, none⟩ = some (.int .i64 (P : Int)) := hSw
            go_simp
            try with_reducible rfl
          simp only [Act.put, List.getElem_toArray, List.getElem_cons_succ, List.getElem_cons_zero, List.setIfInBounds_toArray, List.set_cons_zero, List.set_cons_succ]
          refine C_ready (rs := [12]) (by kernel_rfl) (by simp) ?_
          refine AllC.cons (i := 12) (o := _) rfl (by rfl) (fun K' hK => ?_) ?_
          · skip
            have hal : Below w4.heap.size w4 (w4.alloc (.cells [.int .i64 (s : Int), .slice (some ⟨bM, 0, none⟩) P P, .slice aG sn cG, .slice aD cn cD, .slice (some ⟨bH, 0, none⟩) P P].toArray 58)) := (Below.refl _ _).alloc (Nat.le_refl _) _
            have FB5 := Lib.hid (row_alloc w4 58 [.int .i64 (s : Int), .slice (some ⟨bM, 0, none⟩) P P, .slice aG sn cG, .slice aD cn cD, .slice (some ⟨bH, 0, none⟩) P P])
            obtain ⟨bB, hbB⟩ : ∃ b, b = w4.heap.size := ⟨_, rfl⟩
            have hlB : w.heap.size ≤ bB := by omega
            rw [← hbB] at FB5
            have HG5 := Lib.hid (HG4.out.keep hal HG4.out.lt)
            have HS5 := Lib.hid (HS4.out.keep hal)
            have HC5 := Lib.hid (HC4.out.keep hal)
            have HB5 := Lib.hid (HB4.out.trans (hal.mono hlo4))
            have hlo5 : w.heap.size ≤ _ := Nat.le_trans hlo4 hal.size
            have FM5 := Lib.hid (FM4.out.keep hal FM4.out.lt)
            have FG5 := Lib.hid (own_keep FG4.out hal)
            have FD5 := Lib.hid (own_keep FD4.out hal)
            have FH5 := Lib.hid (FH4.out.keep hal FH4.out.lt)
            clear hal
            go_simp
            rw [← hbB]
            clear hbB
            refine hK _ _ (fun o _ => S8.of HG5.out o) ?_
            clear hK K'
            generalize w4.alloc (.cells #[.int .i64 (s : Int), .slice (some ⟨bM, 0, none⟩) P P, .slice aG sn cG, .slice aD cn cD, .slice (some ⟨bH, 0, none⟩) P P] 58) = w5 at *
            simp only [Act.put, List.getElem_toArray, List.getElem_cons_succ, List.getElem_cons_zero, List.setIfInBounds_toArray, List.set_cons_zero, List.set_cons_succ]
            refine C_take (none) (i := 13) (oi := _) (v := ?_) rfl (by kernel_rfl) (by kernel_rfl) (by kernel_rfl) (by kernel_rfl) (fun _ _ _ h => h) S8.some (Or.inl ⟨by rfl, ?_⟩) (fun o _ => S8.of HG5.out o) ?_
            rotate_left
            · intro w hSw
              have s1 : w.cell? ⟨bg, 0, none⟩ = some (.int .i64 (P : Int)) := hSw
              go_simp
              try with_reducible rfl
            simp only [Act.put, List.getElem_toArray, List.getElem_cons_succ, List.getElem_cons_zero, List.setIfInBounds_toArray, List.set_cons_zero, List.set_cons_succ]
            refine C_done (by kernel_rfl) ?_ _
            exact NoPanic.normal (hnext bB bM bH (.slice aG sn cG) (.slice aD cn cD) FB5.out FM5.out FG5.out FD5.out FH5.out NGD.out NGH.out NDH.out hlB hlM hlH HB5.out)
          exact AllC.nil
        exact AllC.nil
      refine AllC.cons (i := 7) (o := _) rfl (by rfl) (fun K' hK => ?_) ?_
      · skip
        go_simp
        refine (clone_any ca cn cc cz w2 HC2.out.len hcn HC2.out.cells hcnil.out).mono ?_
        rintro e1 w3 ⟨vD, rfl, hO, hbc⟩
        obtain ⟨aD, cD, rfl⟩ := own_slG hO
        have NGD : Hid (∀ b, Value.ownBlock (.slice aG sn cG) = some b → Value.ownBlock (.slice aD cn cD) ≠ some b) := fun b e1 e2 => by
          have h1 := (FG2.out.lt b e1).2
          have h2 := (hO.lt b e2).1
          omega
        have NDH : Hid (Value.ownBlock (.slice aD cn cD) ≠ some bH) := fun e => by
          have h1 := FH2.out.lt
          have h2 := (hO.lt bH e).1
          omega
        have HG3 := Lib.hid (HG2.out.keep hbc HG2.out.lt)
        have HS3 := Lib.hid (HS2.out.keep hbc)
        have HC3 := Lib.hid (HC2.out.keep hbc)
        have HB3 := Lib.hid (HB2.out.trans (hbc.mono hlo2))
        have hlo3 : w.heap.size ≤ _ := Nat.le_trans hlo2 hbc.size
        have FG3 := Lib.hid (own_keep FG2.out hbc)
        have FH3 := Lib.hid (FH2.out.keep hbc FH2.out.lt)
        have FD3 := Lib.hid (own_base hO hlo2)
        clear hO hbc
        go_simp
        refine hK _ _ (fun o _ => S8.of HG3.out o) ?_
        clear hK K'
        simp only [Act.put, List.getElem_toArray, List.getElem_cons_succ, List.getElem_cons_zero, List.setIfInBounds_toArray, List.set_cons_zero, List.set_cons_succ]
        refine C_ready (rs := [3]) (by kernel_rfl) (by simp) ?_
        refine AllC.cons (i := 3) (o := _) rfl (by rfl) (fun K' hK => ?_) ?_
        · skip
          have hal : Below w3.heap.size w3 (w3.alloc (.cells (Array.replicate P (Value.slice none 0 0)) 25)) := (Below.refl _ _).alloc (Nat.le_refl _) _
          have FM4 := Lib.hid (rep_rowS w3 P)
          obtain ⟨bM, hbM⟩ : ∃ b, b = w3.heap.size := ⟨_, rfl⟩
          have hlM : w.heap.size ≤ bM := by omega
          rw [← hbM] at FM4
          have HG4 := Lib.hid (HG3.out.keep hal HG3.out.lt)
          have HS4 := Lib.hid (HS3.out.keep hal)
          have HC4 := Lib.hid (HC3.out.keep hal)
          have HB4 := Lib.hid (HB3.out.trans (hal.mono hlo3))
          have hlo4 : w.heap.size ≤ _ := Nat.le_trans hlo3 hal.size
          have FG4 := Lib.hid (own_keep FG3.out hal)
          have FH4 := Lib.hid (FH3.out.keep hal FH3.out.lt)
          have FD4 := Lib.hid (own_keep FD3.out hal)
          have hmk := HMS.out
          clear hal
          go_simp
          rw [← hbM]
          clear hbM hmk
          refine hK _ _ (fun o _ => S8.of HG4.out o) ?_
          clear hK K'
          generalize w3.alloc (.cells (Array.replicate P (Value.slice none 0 0)) 25) = w4 at *
          simp only [Act.put, List.getElem_toArray, List.getElem_cons_succ, List.getElem_cons_zero, List.setIfInBounds_toArray, List.set_cons_zero, List.set_cons_succ]
          refine C_take (none) (i := 11) (oi := _) (v := ?_) rfl (by kernel_rfl) (by kernel_rfl) (by kernel_rfl) (by kernel_rfl) (fun _ _ _ h => h) S8.some (Or.inl ⟨by rfl, ?_⟩) (fun o _ => S8.of HG4.out o) ?_
          rotate_left
          · intro w hSw
            have s1 : w.cell? ⟨bg, 0, none⟩ = some (.int .i64 (P : Int)) := hSw
            go_simp
            try with_reducible rfl
          simp only [Act.put, List.getElem_toArray, List.getElem_cons_succ, List.getElem_cons_zero, List.setIfInBounds_toArray, List.set_cons_zero, List.set_cons_succ]
          refine C_ready (rs := [12]) (by kernel_rfl) (by simp) ?_
          refine AllC.cons (i := 12) (o := _) rfl (by rfl) (fun K' hK => ?_) ?_
          · skip
            have hal : Below w4.heap.size w4 (w4.alloc (.cells [.int .i64 (s : Int), .slice (some ⟨bM, 0, none⟩) P P, .slice aG sn cG, .slice aD cn cD, .slice (some ⟨bH, 0, none⟩) P P].toArray 58)) := (Below.refl _ _).alloc (Nat.le_refl _) _
            have FB5 := Lib.hid (row_alloc w4 58 [.int .i64 (s : Int), .slice (some ⟨bM, 0, none⟩) P P, .slice aG sn cG, .slice aD cn cD, .slice (some ⟨bH, 0, none⟩) P P])
            obtain ⟨bB, hbB⟩ : ∃ b, b = w4.heap.size := ⟨_, rfl⟩
            have hlB : w.heap.size ≤ bB := by omega
            rw [← hbB] at FB5
            have HG5 := Lib.hid (HG4.out.keep hal HG4.out.lt)
            have HS5 := Lib.hid (HS4.out.keep hal)
            have HC5 := Lib.hid (HC4.out.keep hal)
            have HB5 := Lib.hid (HB4.out.trans (hal.mono hlo4))
            have hlo5 : w.heap.size ≤ _ := Nat.le_trans hlo4 hal.size
            have FM5 := Lib.hid (FM4.out.keep hal FM4.out.lt)
            have FG5 := Lib.hid (own_keep FG4.out hal)
            have FD5 := Lib.hid (own_keep FD4.out hal)
            have FH5 := Lib.hid (FH4.out.keep hal FH4.out.lt)
            clear hal
            go_simp
            rw [← hbB]
            clear hbB
            refine hK _ _ (fun o _ => S8.of HG5.out o) ?_
            clear hK K'
            generalize w4.alloc (.cells #[.int .i64 (s : Int), .slice (some ⟨bM, 0, none⟩) P P, .slice aG sn cG, .slice aD cn cD, .slice (some ⟨bH, 0, none⟩) P P] 58) = w5 at *
            simp only [Act.put, List.getElem_toArray, List.getElem_cons_succ, List.getElem_cons_zero, List.setIfInBounds_toArray, List.set_cons_zero, List.set_cons_succ]
            refine C_take (none) (i := 13) (oi := _) (v := ?_) rfl (by kernel_rfl) (by kernel_rfl) (by kernel_rfl) (by kernel_rfl) (fun _ _ _ h => h) S8.some (Or.inl ⟨by rfl, ?_⟩) (fun o _ => S8.of HG5.out o) ?_
            rotate_left
            · intro w hSw
              have s1 : w.cell? ⟨bg, 0, none⟩ = some (.int .i64 (P : Int)) := hSw
              go_simp
              try with_reducible rfl
            simp only [Act.put, List.getElem_toArray, List.getElem_cons_succ, List.getElem_cons_zero, List.setIfInBounds_toArray, List.set_cons_zero, List.set_cons_succ]
            refine C_done (by kernel_rfl) ?_ _
            exact NoPanic.normal (hnext bB bM bH (.slice aG sn cG) (.slice aD cn cD) FB5.out FM5.out FG5.out FD5.out FH5.out NGD.out NGH.out NDH.out hlB hlM hlH HB5.out)
          exact AllC.nil
        exact AllC.nil
      exact AllC.nil
    exact AllC.nil
  refine AllC.cons (i := 10) (o := _) rfl (by rfl) (fun K' hK => ?_) ?_
  · skip
    have hal : Below w0.heap.size w0 (w0.alloc (.cells (Array.replicate P (Value.int .i64 0)) 3)) := (Below.refl _ _).alloc (Nat.le_refl _) _
    have FH1 := Lib.hid (rep_row w0 P)
    obtain ⟨bH, hbH⟩ : ∃ b, b = w0.heap.size := ⟨_, rfl⟩
    have hlH : w.heap.size ≤ bH := by omega
    rw [← hbH] at FH1
    have HG1 := Lib.hid (HG0.out.keep hal HG0.out.lt)
    have HS1 := Lib.hid (HS0.out.keep hal)
    have HC1 := Lib.hid (HC0.out.keep hal)
    have HB1 := Lib.hid (HB0.out.trans (hal.mono hlo0))
    have hlo1 : w.heap.size ≤ _ := Nat.le_trans hlo0 hal.size
    have hmk := HMI.out
    clear hal
    go_simp
    rw [← hbH]
    clear hbH hmk
    refine hK _ _ (fun o _ => S8.of HG1.out o) ?_
    clear hK K'
    generalize w0.alloc (.cells (Array.replicate P (Value.int .i64 0)) 3) = w1 at *
    simp only [Act.put, List.getElem_toArray, List.getElem_cons_succ, List.getElem_cons_zero, List.setIfInBounds_toArray, List.set_cons_zero, List.set_cons_succ]
    refine C_ready (rs := [3, 5]) (by kernel_rfl) (by simp) ?_
    refine AllC.cons (i := 3) (o := _) rfl (by rfl) (fun K' hK => ?_) ?_
    · skip
      have hal : Below w1.heap.size w1 (w1.alloc (.cells (Array.replicate P (Value.slice none 0 0)) 25)) := (Below.refl _ _).alloc (Nat.le_refl _) _
      have FM2 := Lib.hid (rep_rowS w1 P)
      obtain ⟨bM, hbM⟩ : ∃ b, b = w1.heap.size := ⟨_, rfl⟩
      have hlM : w.heap.size ≤ bM := by omega
      rw [← hbM] at FM2
      have HG2 := Lib.hid (HG1.out.keep hal HG1.out.lt)
      have HS2 := Lib.hid (HS1.out.keep hal)
      have HC2 := Lib.hid (HC1.out.keep hal)
      have HB2 := Lib.hid (HB1.out.trans (hal.mono hlo1))
      have hlo2 : w.heap.size ≤ _ := Nat.le_trans hlo1 hal.size
      have FH2 := Lib.hid (FH1.out.keep hal FH1.out.lt)
      have hmk := HMS.out
      clear hal
      go_simp
      rw [← hbM]
      clear hbM hmk
      refine hK _ _ (fun o _ => S8.of HG2.out o) ?_
      clear hK K'
      generalize w1.alloc (.cells (Array.replicate P (Value.slice none 0 0)) 25) = w2 at *
      simp only [Act.put, List.getElem_toArray, List.getElem_cons_succ, List.getElem_cons_zero, List.setIfInBounds_toArray, List.set_cons_zero, List.set_cons_succ]
      refine C_ready (rs := [5]) (by kernel_rfl) (by simp) ?_
      refine AllC.cons (i := 5) (o := _) rfl (by rfl) (fun K' hK => ?_) ?_
      · skip
        go_simp
        refine (clone_any sa sn sc sz w2 HS2.out.len hsn HS2.out.cells hsnil.out).mono ?_
        rintro e1 w3 ⟨vG, rfl, hO, hbc⟩
        obtain ⟨aG, cG, rfl⟩ := own_slG hO
        have NGH : Hid (Value.ownBlock (.slice aG sn cG) ≠ some bH) := fun e => by
          have h1 := FH2.out.lt
          have h2 := (hO.lt bH e).1
          omega
        have HG3 := Lib.hid (HG2.out.keep hbc HG2.out.lt)
        have HS3 := Lib.hid (HS2.out.keep hbc)
        have HC3 := Lib.hid (HC2.out.keep hbc)
        have HB3 := Lib.hid (HB2.out.trans (hbc.mono hlo2))
        have hlo3 : w.heap.size ≤ _ := Nat.le_trans hlo2 hbc.size
        have FH3 := Lib.hid (FH2.out.keep hbc FH2.out.lt)
        have FM3 := Lib.hid (FM2.out.keep hbc FM2.out.lt)
        have FG3 := Lib.hid (own_base hO hlo2)
        clear hO hbc
        go_simp
        refine hK _ _ (fun o _ => S8.of HG3.out o) ?_
        clear hK K'
        simp only [Act.put, List.getElem_toArray, List.getElem_cons_succ, List.getElem_cons_zero, List.setIfInBounds_toArray, List.set_cons_zero, List.set_cons_succ]
        refine C_ready (rs := [7]) (by kernel_rfl) (by simp) ?_
        refine AllC.cons (i := 7) (o := _) rfl (by rfl) (fun K' hK => ?_) ?_
        · skip
          go_simp
          refine (clone_any ca cn cc cz w3 HC3.out.len hcn HC3.out.cells hcnil.out).mono ?_
          rintro e1 w4 ⟨vD, rfl, hO, hbc⟩
          obtain ⟨aD, cD, rfl⟩ := own_slG hO
          have NDH : Hid (Value.ownBlock (.slice aD cn cD) ≠ some bH) := fun e => by
            have h1 := FH3.out.lt
            have h2 := (hO.lt bH e).1
            omega
          have NGD : Hid (∀ b, Value.ownBlock (.slice aG sn cG) = some b → Value.ownBlock (.slice aD cn cD) ≠ some b) := fun b e1 e2 => by
            have h1 := (FG3.out.lt b e1).2
            have h2 := (hO.lt b e2).1
            omega
          have HG4 := Lib.hid (HG3.out.keep hbc HG3.out.lt)
          have HS4 := Lib.hid (HS3.out.keep hbc)
          have HC4 := Lib.hid (HC3.out.keep hbc)
          have HB4 := Lib.hid (HB3.out.trans (hbc.mono hlo3))
          have hlo4 : w.heap.size ≤ _ := Nat.le_trans hlo3 hbc.size
          have FH4 := Lib.hid (FH3.out.keep hbc FH3.out.lt)
          have FM4 := Lib.hid (FM3.out.keep hbc FM3.out.lt)
          have FG4 := Lib.hid (own_keep FG3.out hbc)
          have FD4 := Lib.hid (own_base hO hlo3)
          clear hO hbc
          go_simp
          refine hK _ _ (fun o _ => S8.of HG4.out o) ?_
          clear hK K'
          simp only [Act.put, List.getElem_toArray, List.getElem_cons_succ, List.getElem_cons_zero, List.setIfInBounds_toArray, List.set_cons_zero, List.set_cons_succ]
          refine C_take (none) (i := 11) (oi := _) (v := ?_) rfl (by kernel_rfl) (by kernel_rfl) (by kernel_rfl) (by kernel_rfl) (fun _ _ _ h => h) S8.some (Or.inl ⟨by rfl, ?_⟩) (fun o _ => S8.of HG4.out o) ?_
          rotate_left
          · intro w hSw
            have s1 : w.cell? ⟨bg, 0, none⟩ = some (.int .i64 (P : Int)) := hSw
            go_simp
            try with_reducible rfl
          simp only [Act.put, List.getElem_toArray, List.getElem_cons_succ, List.getElem_cons_zero, List.setIfInBounds_toArray, List.set_cons_zero, List.set_cons_succ]
          refine C_ready (rs := [12]) (by kernel_rfl) (by simp) ?_
          refine AllC.cons (i := 12) (o := _) rfl (by rfl) (fun K' hK => ?_) ?_
          · skip
            have hal : Below w4.heap.size w4 (w4.alloc (.cells [.int .i64 (s : Int), .slice (some ⟨bM, 0, none⟩) P P, .slice aG sn cG, .slice aD cn cD, .slice (some ⟨bH, 0, none⟩) P P].toArray 58)) := (Below.refl _ _).alloc (Nat.le_refl _) _
            have FB5 := Lib.hid (row_alloc w4 58 [.int .i64 (s : Int), .slice (some ⟨bM, 0, none⟩) P P, .slice aG sn cG, .slice aD cn cD, .slice (some ⟨bH, 0, none⟩) P P])
            obtain ⟨bB, hbB⟩ : ∃ b, b = w4.heap.size := ⟨_, rfl⟩
            have hlB : w.heap.size ≤ bB := by omega
            rw [← hbB] at FB5
            have HG5 := Lib.hid (HG4.out.keep hal HG4.out.lt)
            have HS5 := Lib.hid (HS4.out.keep hal)
            have HC5 := Lib.hid (HC4.out.keep hal)
            have HB5 := Lib.hid (HB4.out.trans (hal.mono hlo4))
            have hlo5 : w.heap.size ≤ _ := Nat.le_trans hlo4 hal.size
            have FM5 := Lib.hid (FM4.out.keep hal FM4.out.lt)
            have FG5 := Lib.hid (own_keep FG4.out hal)
            have FD5 := Lib.hid (own_keep FD4.out hal)
            have FH5 := Lib.hid (FH4.out.keep hal FH4.out.lt)
            clear hal
            go_simp
            rw [← hbB]
            clear hbB
            refine hK _ _ (fun o _ => S8.of HG5.out o) ?_
            clear hK K'
            generalize w4.alloc (.cells #[.int .i64 (s : Int), .slice (some ⟨bM, 0, none⟩) P P, .slice aG sn cG, .slice aD cn cD, .slice (some ⟨bH, 0, none⟩) P P] 58) = w5 at *
            simp only [Act.put, List.getElem_toArray, List.getElem_cons_succ, List.getElem_cons_zero, List.setIfInBounds_toArray, List.set_cons_zero, List.set_cons_succ]
            refine C_take (none) (i := 13) (oi := _) (v := ?_) rfl (by kernel_rfl) (by kernel_rfl) (by kernel_rfl) (by kernel_rfl) (fun _ _ _ h => h) S8.some (Or.inl ⟨by rfl, ?_⟩) (fun o _ => S8.of HG5.out o) ?_
            rotate_left
            · intro w hSw
              have s1 : w.cell? ⟨bg, 0, none⟩ = some (.int .i64 (P : Int)) := hSw
              go_simp
              try with_reducible rfl
            simp only [Act.put, List.getElem_toArray, List.getElem_cons_succ, List.getElem_cons_zero, List.setIfInBounds_toArray, List.set_cons_zero, List.set_cons_succ]
            refine C_done (by kernel_rfl) ?_ _
            exact NoPanic.normal (hnext bB bM bH (.slice aG sn cG) (.slice aD cn cD) FB5.out FM5.out FG5.out FD5.out FH5.out NGD.out NGH.out NDH.out hlB hlM hlH HB5.out)
          exact AllC.nil
        exact AllC.nil
      exact AllC.nil
    refine AllC.cons (i := 5) (o := _) rfl (by rfl) (fun K' hK => ?_) ?_
    · skip
      go_simp
      refine (clone_any sa sn sc sz w1 HS1.out.len hsn HS1.out.cells hsnil.out).mono ?_
      rintro e1 w2 ⟨vG, rfl, hO, hbc⟩
      obtain ⟨aG, cG, rfl⟩ := own_slG hO
      have NGH : Hid (Value.ownBlock (.slice aG sn cG) ≠ some bH) := fun e => by
        have h1 := FH1.out.lt
        have h2 := (hO.lt bH e).1
        omega
      have HG2 := Lib.hid (HG1.out.keep hbc HG1.out.lt)
      have HS2 := Lib.hid (HS1.out.keep hbc)
      have HC2 := Lib.hid (HC1.out.keep hbc)
      have HB2 := Lib.hid (HB1.out.trans (hbc.mono hlo1))
      have hlo2 : w.heap.size ≤ _ := Nat.le_trans hlo1 hbc.size
      have FH2 := Lib.hid (FH1.out.keep hbc FH1.out.lt)
      have FG2 := Lib.hid (own_base hO hlo1)
      clear hO hbc
      go_simp
      refine hK _ _ (fun o _ => S8.of HG2.out o) ?_
      clear hK K'
      simp only [Act.put, List.getElem_toArray, List.getElem_cons_succ, List.getElem_cons_zero, List.setIfInBounds_toArray, List.set_cons_zero, List.set_cons_succ]
      refine C_ready (rs := [3, 7]) (by kernel_rfl) (by simp) ?_
      refine AllC.cons (i := 3) (o := _) rfl (by rfl) (fun K' hK => ?_) ?_
      · skip
        have hal : Below w2.heap.size w2 (w2.alloc (.cells (Array.replicate P (Value.slice none 0 0)) 25)) := (Below.refl _ _).alloc (Nat.le_refl _) _
        have FM3 := Lib.hid (rep_rowS w2 P)
        obtain ⟨bM, hbM⟩ : ∃ b, b = w2.heap.size := ⟨_, rfl⟩
        have hlM : w.heap.size ≤ bM := by omega
        rw [← hbM] at FM3
        have HG3 := Lib.hid (HG2.out.keep hal HG2.out.lt)
        have HS3 := Lib.hid (HS2.out.keep hal)
        have HC3 := Lib.hid (HC2.out.keep hal)
        have HB3 := Lib.hid (HB2.out.trans (hal.mono hlo2))
        have hlo3 : w.heap.size ≤ _ := Nat.le_trans hlo2 hal.size
        have FH3 := Lib.hid (FH2.out.keep hal FH2.out.lt)
        have FG3 := Lib.hid (own_keep FG2.out hal)
        have hmk := HMS.out
        clear hal
        go_simp
        rw [← hbM]
        clear hbM hmk
        refine hK _ _ (fun o _ => S8.of HG3.out o) ?_
        clear hK K'
        generalize w2.alloc (.cells (Array.replicate P (Value.slice none 0 0)) 25) = w3 at *
        simp only [Act.put, List.getElem_toArray, List.getElem_cons_succ, List.getElem_cons_zero, List.setIfInBounds_toArray, List.set_cons_zero, List.set_cons_succ]
        refine C_ready (rs := [7]) (by kernel_rfl) (by simp) ?_
        refine AllC.cons (i := 7) (o := _) rfl (by rfl) (fun K' hK => ?_) ?_
        · skip
          go_simp
          refine (clone_any ca cn cc cz w3 HC3.out.len hcn HC3.out.cells hcnil.out).mono ?_
          rintro e1 w4 ⟨vD, rfl, hO, hbc⟩
          obtain ⟨aD, cD, rfl⟩ := own_slG hO
          have NDH : Hid (Value.ownBlock (.slice aD cn cD) ≠ some bH) := fun e => by
            have h1 := FH3.out.lt
            have h2 := (hO.lt bH e).1
            omega
          have NGD : Hid (∀ b, Value.ownBlock (.slice aG sn cG) = some b → Value.ownBlock (.slice aD cn cD) ≠ some b) := fun b e1 e2 => by
            have h1 := (FG3.out.lt b e1).2
            have h2 := (hO.lt b e2).1
            omega
          have HG4 := Lib.hid (HG3.out.keep hbc HG3.out.lt)
          have HS4 := Lib.hid (HS3.out.keep hbc)
          have HC4 := Lib.hid (HC3.out.keep hbc)
          have HB4 := Lib.hid (HB3.out.trans (hbc.mono hlo3))
          have hlo4 : w.heap.size ≤ _ := Nat.le_trans hlo3 hbc.size
          have FH4 := Lib.hid (FH3.out.keep hbc FH3.out.lt)
          have FG4 := Lib.hid (own_keep FG3.out hbc)
          have FM4 := Lib.hid (FM3.out.keep hbc FM3.out.lt)
          have FD4 := Lib.hid (own_base hO hlo3)
          clear hO hbc
          go_simp
          refine hK _ _ (fun o _ => S8.of HG4.out o) ?_
          clear hK K'
          simp only [Act.put, List.getElem_toArray, List.getElem_cons_succ, List.getElem_cons_zero, List.setIfInBounds_toArray, List.set_cons_zero, List.set_cons_succ]
          refine C_take (none) (i := 11) (oi := _) (v := ?_) rfl (by kernel_rfl) (by kernel_rfl) (by kernel_rfl) (by kernel_rfl) (fun _ _ _ h => h) S8.some (Or.inl ⟨by rfl, ?_⟩) (fun o _ => S8.of HG4.out o) ?_
          rotate_left
          · intro w hSw
            have s1 : w.cell? ⟨bg, 0, none⟩ = some (.int .i64 (P : Int)) := hSw
            go_simp
            try with_reducible rfl
          simp only [Act.put, List.getElem_toArray, List.getElem_cons_succ, List.getElem_cons_zero, List.setIfInBounds_toArray, List.set_cons_zero, List.set_cons_succ]
          refine C_ready (rs := [12]) (by kernel_rfl) (by simp) ?_
          refine AllC.cons (i := 12) (o := _) rfl (by rfl) (fun K' hK => ?_) ?_
          · skip
            have hal : Below w4.heap.size w4 (w4.alloc (.cells [.int .i64 (s : Int), .slice (some ⟨bM, 0, none⟩) P P, .slice aG sn cG, .slice aD cn cD, .slice (some ⟨bH, 0, none⟩) P P].toArray 58)) := (Below.refl _ _).alloc (Nat.le_refl _) _
            have FB5 := Lib.hid (row_alloc w4 58 [.int .i64 (s : Int), .slice (some ⟨bM, 0, none⟩) P P, .slice aG sn cG, .slice aD cn cD, .slice (some ⟨bH, 0, none⟩) P P])
            obtain ⟨bB, hbB⟩ : ∃ b, b = w4.heap.size := ⟨_, rfl⟩
            have hlB : w.heap.size ≤ bB := by omega
            rw [← hbB] at FB5
            have HG5 := Lib.hid (HG4.out.keep hal HG4.out.lt)
            have HS5 := Lib.hid (HS4.out.keep hal)
            have HC5 := Lib.hid (HC4.out.keep hal)
            have HB5 := Lib.hid (HB4.out.trans (hal.mono hlo4))
            have hlo5 : w.heap.size ≤ _ := Nat.le_trans hlo4 hal.size
            have FM5 := Lib.hid (FM4.out.keep hal FM4.out.lt)
            have FG5 := Lib.hid (own_keep FG4.out hal)
            have FD5 := Lib.hid (own_keep FD4.out hal)
            have FH5 := Lib.hid (FH4.out.keep hal FH4.out.lt)
            clear hal
            go_simp
            rw [← hbB]
            clear hbB
            refine hK _ _ (fun o _ => S8.of HG5.out o) ?_
            clear hK K'
            generalize w4.alloc (.cells #[.int .i64 (s : Int), .slice (some ⟨bM, 0, none⟩) P P, .slice aG sn cG, .slice aD cn cD, .slice (some ⟨bH, 0, none⟩) P P] 58) = w5 at *
            simp only [Act.put, List.getElem_toArray, List.getElem_cons_succ, List.getElem_cons_zero, List.setIfInBounds_toArray, List.set_cons_zero, List.set_cons_succ]
            refine C_take (none) (i := 13) (oi := _) (v := ?_) rfl (by kernel_rfl) (by kernel_rfl) (by kernel_rfl) (by kernel_rfl) (fun _ _ _ h => h) S8.some (Or.inl ⟨by rfl, ?_⟩) (fun o _ => S8.of HG5.out o) ?_
            rotate_left
            · intro w hSw
              have s1 : w.cell? ⟨bg, 0, none⟩ = some (.int .i64 (P : Int)) := hSw
              go_simp
              try with_reducible rfl
            simp only [Act.put, List.getElem_toArray, List.getElem_cons_succ, List.getElem_cons_zero, List.setIfInBounds_toArray, List.set_cons_zero, List.set_cons_succ]
            refine C_done (by kernel_rfl) ?_ _
            exact NoPanic.normal (hnext bB bM bH (.slice aG sn cG) (.slice aD cn cD) FB5.out FM5.out FG5.out FD5.out FH5.out NGD.out NGH.out NDH.out hlB hlM hlH HB5.out)
          exact AllC.nil
        exact AllC.nil
      refine AllC.cons (i := 7) (o := _) rfl (by rfl) (fun K' hK => ?_) ?_
      · skip
        go_simp
        refine (clone_any ca cn cc cz w2 HC2.out.len hcn HC2.out.cells hcnil.out).mono ?_
        rintro e1 w3 ⟨vD, rfl, hO, hbc⟩
        obtain ⟨aD, cD, rfl⟩ := own_slG hO
        have NDH : Hid (Value.ownBlock (.slice aD cn cD) ≠ some bH) := fun e => by
          have h1 := FH2.out.lt
          have h2 := (hO.lt bH e).1
          omega
        have NGD : Hid (∀ b, Value.ownBlock (.slice aG sn cG) = some b → Value.ownBlock (.slice aD cn cD) ≠ some b) := fun b e1 e2 => by
          have h1 := (FG2.out.lt b e1).2
          have h2 := (hO.lt b e2).1
          omega
        have HG3 := Lib.hid (HG2.out.keep hbc HG2.out.lt)
        have HS3 := Lib.hid (HS2.out.keep hbc)
        have HC3 := Lib.hid (HC2.out.keep hbc)
        have HB3 := Lib.hid (HB2.out.trans (hbc.mono hlo2))
        have hlo3 : w.heap.size ≤ _ := Nat.le_trans hlo2 hbc.size
        have FH3 := Lib.hid (FH2.out.keep hbc FH2.out.lt)
        have FG3 := Lib.hid (own_keep FG2.out hbc)
        have FD3 := Lib.hid (own_base hO hlo2)
        clear hO hbc
        go_simp
        refine hK _ _ (fun o _ => S8.of HG3.out o) ?_
        clear hK K'
        simp only [Act.put, List.getElem_toArray, List.getElem_cons_succ, List.getElem_cons_zero, List.setIfInBounds_toArray, List.set_cons_zero, List.set_cons_succ]
        refine C_ready (rs := [3]) (by kernel_rfl) (by simp) ?_
        refine AllC.cons (i := 3) (o := _) rfl (by rfl) (fun K' hK => ?_) ?_
        · skip
          have hal : Below w3.heap.size w3 (w3.alloc (.cells (Array.replicate P (Value.slice none 0 0)) 25)) := (Below.refl _ _).alloc (Nat.le_refl _) _
          have FM4 := Lib.hid (rep_rowS w3 P)
          obtain ⟨bM, hbM⟩ : ∃ b, b = w3.heap.size := ⟨_, rfl⟩
          have hlM : w.heap.size ≤ bM := by omega
          rw [← hbM] at FM4
          have HG4 := Lib.hid (HG3.out.keep hal HG3.out.lt)
          have HS4 := Lib.hid (HS3.out.keep hal)
          have HC4 := Lib.hid (HC3.out.keep hal)
          have HB4 := Lib.hid (HB3.out.trans (hal.mono hlo3))
          have hlo4 : w.heap.size ≤ _ := Nat.le_trans hlo3 hal.size
          have FH4 := Lib.hid (FH3.out.keep hal FH3.out.lt)
          have FG4 := Lib.hid (own_keep FG3.out hal)
          have FD4 := Lib.hid (own_keep FD3.out hal)
          have hmk := HMS.out
          clear hal
          go_simp
          rw [← hbM]
          clear hbM hmk
          refine hK _ _ (fun o _ => S8.of HG4.out o) ?_
          clear hK K'
          generalize w3.alloc (.cells (Array.replicate P (Value.slice none 0 0)) 25) = w4 at *
          simp only [Act.put, List.getElem_toArray, List.getElem_cons_succ, List.getElem_cons_zero, List.setIfInBounds_toArray, List.set_cons_zero, List.set_cons_succ]
          refine C_take (none) (i := 11) (oi := _) (v := ?_) rfl (by kernel_rfl) (by kernel_rfl) (by kernel_rfl) (by kernel_rfl) (fun _ _ _ h => h) S8.some (Or.inl ⟨by rfl, ?_⟩) (fun o _ => S8.of HG4.out o) ?_
          rotate_left
          · intro w hSw
            have s1 : w.cell? ⟨bg, 0, none⟩ = some (.int .i64 (P : Int)) := hSw
            go_simp
            try with_reducible rfl
          simp only [Act.put, List.getElem_toArray, List.getElem_cons_succ, List.getElem_cons_zero, List.setIfInBounds_toArray, List.set_cons_zero, List.set_cons_succ]
          refine C_ready (rs := [12]) (by kernel_rfl) (by simp) ?_
          refine AllC.cons (i := 12) (o := _) rfl (by rfl) (fun K' hK => ?_) ?_
          · skip
            have hal : Below w4.heap.size w4 (w4.alloc (.cells [.int .i64 (s : Int), .slice (some ⟨bM, 0, none⟩) P P, .slice aG sn cG, .slice aD cn cD, .slice (some ⟨bH, 0, none⟩) P P].toArray 58)) := (Below.refl _ _).alloc (Nat.le_refl _) _
            have FB5 := Lib.hid (row_alloc w4 58 [.int .i64 (s : Int), .slice (some ⟨bM, 0, none⟩) P P, .slice aG sn cG, .slice aD cn cD, .slice (some ⟨bH, 0, none⟩) P P])
            obtain ⟨bB, hbB⟩ : ∃ b, b = w4.heap.size := ⟨_, rfl⟩
            have hlB : w.heap.size ≤ bB := by omega
            rw [← hbB] at FB5
            have HG5 := Lib.hid (HG4.out.keep hal HG4.out.lt)
            have HS5 := Lib.hid (HS4.out.keep hal)
            have HC5 := Lib.hid (HC4.out.keep hal)
            have HB5 := Lib.hid (HB4.out.trans (hal.mono hlo4))
            have hlo5 : w.heap.size ≤ _ := Nat.le_trans hlo4 hal.size
            have FM5 := Lib.hid (FM4.out.keep hal FM4.out.lt)
            have FG5 := Lib.hid (own_keep FG4.out hal)
            have FD5 := Lib.hid (own_keep FD4.out hal)
            have FH5 := Lib.hid (FH4.out.keep hal FH4.out.lt)
            clear hal
            go_simp
            rw [← hbB]
            clear hbB
            refine hK _ _ (fun o _ => S8.of HG5.out o) ?_
            clear hK K'
            generalize w4.alloc (.cells #[.int .i64 (s : Int), .slice (some ⟨bM, 0, none⟩) P P, .slice aG sn cG, .slice aD cn cD, .slice (some ⟨bH, 0, none⟩) P P] 58) = w5 at *
            simp only [Act.put, List.getElem_toArray, List.getElem_cons_succ, List.getElem_cons_zero, List.setIfInBounds_toArray, List.set_cons_zero, List.set_cons_succ]
            refine C_take (none) (i := 13) (oi := _) (v := ?_) rfl (by kernel_rfl) (by kernel_rfl) (by kernel_rfl) (by kernel_rfl) (fun _ _ _ h => h) S8.some (Or.inl ⟨by rfl, ?_⟩) (fun o _ => S8.of HG5.out o) ?_
            rotate_left
            · intro w hSw
              have s1 : w.cell? ⟨bg, 0, none⟩ = some (.int .i64 (P : Int)) := hSw
              go_simp
              try with_reducible rfl
            simp only [Act.put, List.getElem_toArray, List.getElem_cons_succ, List.getElem_cons_zero, List.setIfInBounds_toArray, List.set_cons_zero, List.set_cons_succ]
            refine C_done (by kernel_rfl) ?_ _
            exact NoPanic.normal (hnext bB bM bH (.slice aG sn cG) (.slice aD cn cD) FB5.out FM5.out FG5.out FD5.out FH5.out NGD.out NGH.out NDH.out hlB hlM hlH HB5.out)
          exact AllC.nil
        exact AllC.nil
      exact AllC.nil
    exact AllC.nil
  exact AllC.nil
end Rt
end Go.Proofs.Ytjikildiblchpaa
