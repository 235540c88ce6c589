/- WALK: sand.NewNet: the loop over edges. -/
import Derived.Test.YtjikildiblchpaaGfN
import Derived.Deep.MidRow
import Derived.Deep.RegionHeld3
namespace Go.Proofs.Ytjikildiblchpaa
set_option linter.unusedSimpArgs false
set_option linter.unusedVariables false
open Go.RowKit Go.Lib
namespace Rt
open Tld Mem

theorem cell_only {w w' : World} {b c k : Nat} (h : Only c w w') (hne : b ≠ c) : w'.cell? ⟨b, k, none⟩ = w.cell? ⟨b, k, none⟩ := by
  unfold World.cell?
  rw [h.block b hne]
/-- A net in the making. -/
structure NetB (w : World) (bn be bd ce : Nat) (bk : Nat → Nat) (P : Nat) (E : Nat → Nat → Nat) (D : Nat → Nat) : Prop where
  rn : Row w bn 72 [.slice (some ⟨be, 0, none⟩) P ce, .slice (some ⟨bd, 0, none⟩) P P]
  re : ∀ k, k < P → w.cell? ⟨be, k, none⟩ = some (.slice (some ⟨bk k, 0, none⟩) P P)
  rk : ∀ k, k < P → Vec w (bk k) P fun o => (E k o : Int)
  rd : Vec w bd P fun k => (D k : Int)
structure Dst (B bn be bd : Nat) (bk : Nat → Nat) (P : Nat) : Prop where
  inj : ∀ j k, j < P → k < P → bk j = bk k → j = k
  kd : ∀ k, k < P → bk k ≠ bd
  kn : ∀ k, k < P → bk k ≠ bn
  ke : ∀ k, k < P → bk k ≠ be
  dn : bd ≠ bn
  de : bd ≠ be
  lk : ∀ k, k < P → B ≤ bk k
  ld : B ≤ bd
theorem NetB.net {w : World} {bn be bd ce : Nat} {bk : Nat → Nat} {P : Nat} {E : Nat → Nat → Nat} {D : Nat → Nat} (h : NetB w bn be bd ce bk P E D) : Net w bn P E D :=
  ⟨⟨be, ce, bd, P, bk, h.rn.cell 0, h.rn.cell 1, fun k hk => ⟨h.re k hk, h.rd.cell hk, fun o ho => (h.rk k hk).cell ho⟩⟩⟩
theorem NetB.congr {w : World} {bn be bd ce : Nat} {bk : Nat → Nat} {P : Nat} {E E' : Nat → Nat → Nat} {D D' : Nat → Nat} (h : NetB w bn be bd ce bk P E D) (e : ∀ a b, E a b = E' a b) (d : ∀ a, D a = D' a) : NetB w bn be bd ce bk P E' D' := by
  obtain rfl : E = E' := funext fun a => funext fun b => e a b
  obtain rfl : D = D' := funext d
  exact h
theorem NetB.drew {w : World} {bn be bd ce : Nat} {bk : Nat → Nat} {P : Nat} {E : Nat → Nat → Nat} {D : Nat → Nat} (h : NetB w bn be bd ce bk P E D) : NetB w.drew bn be bd ce bk P E D :=
  ⟨h.rn.drew, h.re, fun k hk => (h.rk k hk).drewN 1, h.rd.drewN 1⟩
theorem NetB.keep {w w' : World} {bn be bd ce : Nat} {bk : Nat → Nat} {P : Nat} {E : Nat → Nat → Nat} {D : Nat → Nat} (h : NetB w bn be bd ce bk P E D) (hb : Below w.heap.size w w') : NetB w' bn be bd ce bk P E D :=
  ⟨h.rn.keep hb h.rn.lt, fun k hk => cell_keep (h.re k hk) hb, fun k hk => (h.rk k hk).keep hb (h.rk k hk).lt, h.rd.keep hb h.rd.lt⟩
def updE (E : Nat → Nat → Nat) (a b v k o : Nat) : Nat := if k = a ∧ o = b then v else E k o
def updN (D : Nat → Nat) (a v k : Nat) : Nat := if k = a then v else D k
theorem NetB.setE {w : World} {B bn be bd ce : Nat} {bk : Nat → Nat} {P : Nat} {E : Nat → Nat → Nat} {D : Nat → Nat} (h : NetB w bn be bd ce bk P E D) (hd : Dst B bn be bd bk P) {a b v : Nat} (ha : a < P) (hb : b < P) :
    NetB (w.setCell ⟨bk a, b, none⟩ (.int .i64 (v : Int))) bn be bd ce bk P (updE E a b v) D := by
  have ho := only_setCell w (bk a) b (.int .i64 (v : Int))
  refine ⟨h.rn.other ho (fun e => hd.kn a ha e.symm), fun k hk => ?_, fun k hk => ?_, h.rd.other ho (fun e => hd.kd a ha e.symm)⟩
  · rw [cell_only ho (fun e => hd.ke a ha e.symm)]; exact h.re k hk
  · by_cases e : k = a
    · subst e
      refine ((h.rk k hk).set hb (v : Int)).congr fun o ho => ?_
      unfold upd updE
      by_cases e2 : o = b
      · rw [if_pos e2, if_pos ⟨rfl, e2⟩]
      · rw [if_neg e2, if_neg (fun x => e2 x.2)]
    · refine ((h.rk k hk).other ho (fun x => e (hd.inj k a hk ha x))).congr fun o ho => ?_
      unfold updE
      rw [if_neg (fun x => e x.1)]
theorem NetB.setD {w : World} {B bn be bd ce : Nat} {bk : Nat → Nat} {P : Nat} {E : Nat → Nat → Nat} {D : Nat → Nat} (h : NetB w bn be bd ce bk P E D) (hd : Dst B bn be bd bk P) {a v : Nat} (ha : a < P) :
    NetB (w.setCell ⟨bd, a, none⟩ (.int .i64 (v : Int))) bn be bd ce bk P E (updN D a v) := by
  have ho := only_setCell w bd a (.int .i64 (v : Int))
  refine ⟨h.rn.other ho (fun e => hd.dn e.symm), fun k hk => ?_, fun k hk => (h.rk k hk).other ho (hd.kd k hk), (h.rd.set ha (v : Int)).congr fun k hk => ?_⟩
  · rw [cell_only ho (fun e => hd.de e.symm)]; exact h.re k hk
  · unfold upd updN
    split <;> rfl
theorem btw_next {P i : Nat} {f : Nat → Nat → Int} (h : EdgeN P f i) (a b : Nat) : updE (updE (fun a b => btw f a b i) (eA f i) (eB f i) (btw f (eA f i) (eB f i) i + eT f i)) (eB f i) (eA f i) (btw f (eB f i) (eA f i) i + eT f i) a b = btw f a b (i + 1) := by
  have hne := h.ne
  rw [btw_succ]
  unfold updE
  by_cases h1 : a = eB f i ∧ b = eA f i
  · have hb : Btw f i a b := .inr ⟨h1.2.symm, h1.1.symm⟩
    rw [if_pos h1, if_pos hb, h1.1, h1.2]
  · rw [if_neg h1]
    by_cases h2 : a = eA f i ∧ b = eB f i
    · have hb : Btw f i a b := .inl ⟨h2.1.symm, h2.2.symm⟩
      rw [if_pos h2, if_pos hb, h2.1, h2.2]
    · rw [if_neg h2, if_neg (fun x : Btw f i a b => x.elim (fun y => h2 ⟨y.1.symm, y.2.symm⟩) (fun y => h1 ⟨y.2.symm, y.1.symm⟩)), Nat.add_zero]
theorem deg_next {P i : Nat} {f : Nat → Nat → Int} (h : EdgeN P f i) (a : Nat) : updN (updN (fun a => deg f a i) (eA f i) (deg f (eA f i) i + eT f i)) (eB f i) (deg f (eB f i) i + eT f i) a = deg f a (i + 1) := by
  have hne := h.ne
  rw [deg_succ]
  unfold updN
  by_cases h1 : a = eB f i
  · rw [if_pos h1, h1, if_pos (.inr rfl)]
  · rw [if_neg h1]
    by_cases h2 : a = eA f i
    · rw [if_pos h2, h2, if_pos (.inl rfl)]
    · rw [if_neg h2, if_neg (fun x => x.elim (fun y => h2 y.symm) (fun y => h1 y.symm)), Nat.add_zero]
theorem setE_add {w : World} {B bn be bd ce : Nat} {bk : Nat → Nat} {P : Nat} {E : Nat → Nat → Nat} {D : Nat → Nat} {a b v t : Nat} (h : NetB w bn be bd ce bk P E D) (hd : Dst B bn be bd bk P) (ha : a < P) (hb : b < P) :
    NetB (w.setCell ⟨bk a, b, none⟩ (.int .i64 ((v : Int) + (t : Int)))) bn be bd ce bk P (updE E a b (v + t)) D := by
  have := h.setE hd (v := v + t) ha hb
  rwa [Int.natCast_add] at this
theorem setD_add {w : World} {B bn be bd ce : Nat} {bk : Nat → Nat} {P : Nat} {E : Nat → Nat → Nat} {D : Nat → Nat} {a v t : Nat} (h : NetB w bn be bd ce bk P E D) (hd : Dst B bn be bd bk P) (ha : a < P) :
    NetB (w.setCell ⟨bd, a, none⟩ (.int .i64 ((v : Int) + (t : Int)))) bn be bd ce bk P E (updN D a (v + t)) := by
  have := h.setD hd (v := v + t) ha
  rwa [Int.natCast_add] at this
theorem updE_no {E : Nat → Nat → Nat} {a b v k o : Nat} (h : ¬ (k = a ∧ o = b)) : updE E a b v k o = E k o := if_neg h
theorem updN_no {D : Nat → Nat} {a v k : Nat} (h : k ≠ a) : updN D a v k = D k := if_neg h
theorem infoEdge : (Try.prog.info? 27).map (·.size) = some 3 := by kernel_rfl
theorem edges_range {w : World} {b off m : Nat} {f : Nat → Nat → Int} (h : Mem.Rows w (some ⟨b, off, none⟩) m 3 (fun i j => .int .i64 (f i j))) {i : Nat} (hi : i < m) : w.rangeAt b (off + i * 3) [.int .i64 (f i 0), .int .i64 (f i 1), .int .i64 (f i 2)] := fun j v hv => by
  obtain ⟨b', o', e, _, hc⟩ := h i hi
  cases e
  match j, hv with
  | 0, hv => simp only [List.getElem?_cons_zero, Option.some.injEq] at hv; rw [← hv]; exact hc 0 (by omega)
  | 1, hv => simp only [List.getElem?_cons_succ, List.getElem?_cons_zero, Option.some.injEq] at hv; rw [← hv]; exact hc 1 (by omega)
  | 2, hv => simp only [List.getElem?_cons_succ, List.getElem?_cons_zero, Option.some.injEq] at hv; rw [← hv]; exact hc 2 (by omega)
  | j + 3, hv => simp at hv

set_option maxHeartbeats 1000000 in
theorem place_any (k P : Int) (bg : Nat) (ev : Value) (w : World) (HG : Row w bg 24 [.int .i64 P, ev]) : Calls Try.prog 44 #[.int .i64 k, .pointer (some ⟨bg, 0, none⟩)] w fun e w' => e = .returned (.bool (decide (0 ≤ k ∧ k < P))) ∧ w = w' := by
  have g0 := HG.cell 0
  dsimp only [List.getElem?_cons_zero] at g0
  clear HG
  go_enter Try.func44, Try.ntmps44
  by_cases h0 : 0 ≤ k
  · by_cases h1 : k < P
    · have hd : decide (0 ≤ k ∧ k < P) = true := decide_eq_true ⟨h0, h1⟩
      have d1 : decide (0 ≤ k) = true := decide_eq_true h0
      have d2 : decide (k < P) = true := decide_eq_true h1
      rw [hd]
      go_wp2
      go_ret
      exact ⟨rfl, rfl⟩
    · have hd : decide (0 ≤ k ∧ k < P) = false := decide_eq_false fun h => h1 h.2
      have d1 : decide (0 ≤ k) = true := decide_eq_true h0
      have d2 : decide (k < P) = false := decide_eq_false h1
      rw [hd]
      go_wp2
      go_ret
      exact ⟨rfl, rfl⟩
  · have hd : decide (0 ≤ k ∧ k < P) = false := decide_eq_false fun h => h0 h.1
    have d1 : decide (0 ≤ k) = false := decide_eq_false h0
    rw [hd]
    go_wp2
    go_ret
    exact ⟨rfl, rfl⟩
set_option maxHeartbeats 8000000 in
set_option maxRecDepth 1000000 in
theorem net2 (P m : Nat) (f : Nat → Nat → Int) (bg bn be bd ce : Nat) (bk : Nat → Nat) (ea : Option Addr) (ec : Nat) (w0 w : World) (hP1 : 1 ≤ P) (hP10 : P ≤ 10) (hm40 : m ≤ 40) (hbn : w0.heap.size ≤ bn)
    (HER : Hid (Mem.Rows w0 ea m 3 (fun i j => .int .i64 (f i j)))) (HD : Hid (Dst w0.heap.size bn be bd bk P)) (HNB : Hid (NetB w bn be bd ce bk P (fun _ _ => 0) (fun _ => 0))) (HG : Hid (Row w bg 24 [.int .i64 (P : Int), .slice ea m ec])) (hbgn : bg ≠ bn) (hbgd : bg ≠ bd) (hbgk : Hid (∀ k, k < P → bk k ≠ bg)) (HB : Hid (Below w0.heap.size w0 w))
    (c0 c2 c3 c5 c6 c7 c8 c9 c10 c11 c12 c13 c14 c15 c16 c17 c18 c19 c20 c21 c22 c23 c24 c25 c26 c27 c28 c29 c30 c31 c32 c33 c34 c35 c36 c37 c38 c39 c40 c41 c42 c43 c44 c45 c46 c47 c48 c49 c50 c51 c52 c53 c54 c55 c56 c57 c58 c59 c60 c61 c62 c63 c64 c65 c66 c67 c68 c69 c70 c71 c72 c73 c74 c75 c76 c77 c78 c79 c80 c81 c82 c83 c84 c85 c86 c87 c88 c89 c90 c91 c92 c93 c94 c95 c96 c97 c98 c99 c100 c101 c102 c103 c104 c105 c106 c107 c108 c109 c110 c111 c112 c113 c114 c115 c116 c117 c118 c119 c120 c121 c122 c123 c124 c125 c126 c127 c128 c129 c130 c131 c132 c133 c134 c135 c136 c137 c138 c139 c140 c141 c142 c143 c144 c145 c146 c147 c148 c149 c150 c151 c152 c153 c154 c155 c156 c157 c158 c159 c160 c161 c162 c163 c164 c165 c166 c167 c168 c169 c170 c171 c172 c173 c174 c175 c176 c177 c178 c179 c180 c181 c182 c183 c184 c185 c186 c187 : Value) (Q : Exit → Act → World → Prop)
    (hbad : ∀ {u7 u8 u9 u10 u11 u50 u51 u52 u53 u54 u55 u56 u57 u58 u59 u60 u61 u62 u63 u64 u65 u66 u67 u68 u69 u70 u71 u72 u73 u74 u75 u76 u77 u78 u79 u80 u81 u82 u83 u84 u85 u86 u87 u88 u89 u90 u91 u92 u93 u94 u95 u96 u97 u98 u99 u100 u101 u102 u103 u104 u105 u106 u107 u108 u109 u110 u111 u112 u113 u114 u115 u116 u117 u118 u119 u120 u121 u122 u123 u124 u125 u126 u127 u128 u129 u130 u131 u132 u133 u134 u135 u136 u137 u138 u139 u140 u141 u142 u143 u144 u145 u146 u147 u148 u149 u150 u151 u152 u153 u154 u155 u156 u157 u158 u159 u160 u161 u162 u163 u164 u165 u166 u167 u168 u169 u170 u171 u172 u173 u174 u175 u176 u177 u178 u179 u180 u181 u182 u183 u184 u185 u186 u187 : Value} {w' : World}, (∃ i, i < m ∧ ¬ EdgeOk P f i) → Below w0.heap.size w0 w' → Q .ret ⟨#[c0, .pointer (some ⟨bg, 0, none⟩), .pointer none, .iface 59 (.int .i64 1), .pointer (some ⟨bn, 0, none⟩), .func (.func 44) #[] #[.pointer (some ⟨bg, 0, none⟩)], c6, u7, u8, u9, u10, u11, c12, c13, c14, c15, c16, c17, c18, c19, c20, c21, c22, c23, c24, c25, c26, c27, c28, c29, c30, c31, c32, c33, c34, c35, c36, c37, c38, c39, c40, c41, c42, c43, c44, c45, c46, c47, c48, c49, u50, u51, u52, u53, u54, u55, u56, u57, u58, u59, u60, u61, u62, u63, u64, u65, u66, u67, u68, u69, u70, u71, u72, u73, u74, u75, u76, u77, u78, u79, u80, u81, u82, u83, u84, u85, u86, u87, u88, u89, u90, u91, u92, u93, u94, u95, u96, u97, u98, u99, u100, u101, u102, u103, u104, u105, u106, u107, u108, u109, u110, u111, u112, u113, u114, u115, u116, u117, u118, u119, u120, u121, u122, u123, u124, u125, u126, u127, u128, u129, u130, u131, u132, u133, u134, u135, u136, u137, u138, u139, u140, u141, u142, u143, u144, u145, u146, u147, u148, u149, u150, u151, u152, u153, u154, u155, u156, u157, u158, u159, u160, u161, u162, u163, u164, u165, u166, u167, u168, u169, u170, u171, u172, u173, u174, u175, u176, u177, u178, u179, u180, u181, u182, u183, u184, u185, u186, u187], []⟩ w')
    (hapart : ∀ {u7 u8 u9 u10 u11 u50 u51 u52 u53 u54 u55 u56 u57 u58 u59 u60 u61 u62 u63 u64 u65 u66 u67 u68 u69 u70 u71 u72 u73 u74 u75 u76 u77 u78 u79 u80 u81 u82 u83 u84 u85 u86 u87 u88 u89 u90 u91 u92 u93 u94 u95 u96 u97 u98 u99 u100 u101 u102 u103 u104 u105 u106 u107 u108 u109 u110 u111 u112 u113 u114 u115 u116 u117 u118 u119 u120 u121 u122 u123 u124 u125 u126 u127 u128 u129 u130 u131 u132 u133 u134 u135 u136 u137 u138 u139 u140 u141 u142 u143 u144 u145 u146 u147 u148 u149 u150 u151 u152 u153 u154 u155 u156 u157 u158 u159 u160 u161 u162 u163 u164 u165 u166 u167 u168 u169 u170 u171 u172 u173 u174 u175 u176 u177 u178 u179 u180 u181 u182 u183 u184 u185 u186 u187 : Value} {w' : World}, (∀ i, i < m → EdgeOk P f i) → ¬ ConnG P f m → Below w0.heap.size w0 w' → Q .ret ⟨#[c0, .pointer (some ⟨bg, 0, none⟩), .pointer none, .iface 59 (.int .i64 3), .pointer (some ⟨bn, 0, none⟩), .func (.func 44) #[] #[.pointer (some ⟨bg, 0, none⟩)], c6, u7, u8, u9, u10, u11, c12, c13, c14, c15, c16, c17, c18, c19, c20, c21, c22, c23, c24, c25, c26, c27, c28, c29, c30, c31, c32, c33, c34, c35, c36, c37, c38, c39, c40, c41, c42, c43, c44, c45, c46, c47, c48, c49, u50, u51, u52, u53, u54, u55, u56, u57, u58, u59, u60, u61, u62, u63, u64, u65, u66, u67, u68, u69, u70, u71, u72, u73, u74, u75, u76, u77, u78, u79, u80, u81, u82, u83, u84, u85, u86, u87, u88, u89, u90, u91, u92, u93, u94, u95, u96, u97, u98, u99, u100, u101, u102, u103, u104, u105, u106, u107, u108, u109, u110, u111, u112, u113, u114, u115, u116, u117, u118, u119, u120, u121, u122, u123, u124, u125, u126, u127, u128, u129, u130, u131, u132, u133, u134, u135, u136, u137, u138, u139, u140, u141, u142, u143, u144, u145, u146, u147, u148, u149, u150, u151, u152, u153, u154, u155, u156, u157, u158, u159, u160, u161, u162, u163, u164, u165, u166, u167, u168, u169, u170, u171, u172, u173, u174, u175, u176, u177, u178, u179, u180, u181, u182, u183, u184, u185, u186, u187], []⟩ w')
    (hok : ∀ {u7 u8 u9 u10 u11 u50 u51 u52 u53 u54 u55 u56 u57 u58 u59 u60 u61 u62 u63 u64 u65 u66 u67 u68 u69 u70 u71 u72 u73 u74 u75 u76 u77 u78 u79 u80 u81 u82 u83 u84 u85 u86 u87 u88 u89 u90 u91 u92 u93 u94 u95 u96 u97 u98 u99 u100 u101 u102 u103 u104 u105 u106 u107 u108 u109 u110 u111 u112 u113 u114 u115 u116 u117 u118 u119 u120 u121 u122 u123 u124 u125 u126 u127 u128 u129 u130 u131 u132 u133 u134 u135 u136 u137 u138 u139 u140 u141 u142 u143 u144 u145 u146 u147 u148 u149 u150 u151 u152 u153 u154 u155 u156 u157 u158 u159 u160 u161 u162 u163 u164 u165 u166 u167 u168 u169 u170 u171 u172 u173 u174 u175 u176 u177 u178 u179 u180 u181 u182 u183 u184 u185 u186 u187 : Value} {w' : World}, (∀ i, i < m → EdgeOk P f i) → ConnG P f m → Net w' bn P (fun a b => btw f a b m) (fun a => deg f a m) → Below w0.heap.size w0 w' → Q .ret ⟨#[c0, .pointer (some ⟨bg, 0, none⟩), .pointer (some ⟨bn, 0, none⟩), .nilIface, .pointer (some ⟨bn, 0, none⟩), .func (.func 44) #[] #[.pointer (some ⟨bg, 0, none⟩)], c6, u7, u8, u9, u10, u11, c12, c13, c14, c15, c16, c17, c18, c19, c20, c21, c22, c23, c24, c25, c26, c27, c28, c29, c30, c31, c32, c33, c34, c35, c36, c37, c38, c39, c40, c41, c42, c43, c44, c45, c46, c47, c48, c49, u50, u51, u52, u53, u54, u55, u56, u57, u58, u59, u60, u61, u62, u63, u64, u65, u66, u67, u68, u69, u70, u71, u72, u73, u74, u75, u76, u77, u78, u79, u80, u81, u82, u83, u84, u85, u86, u87, u88, u89, u90, u91, u92, u93, u94, u95, u96, u97, u98, u99, u100, u101, u102, u103, u104, u105, u106, u107, u108, u109, u110, u111, u112, u113, u114, u115, u116, u117, u118, u119, u120, u121, u122, u123, u124, u125, u126, u127, u128, u129, u130, u131, u132, u133, u134, u135, u136, u137, u138, u139, u140, u141, u142, u143, u144, u145, u146, u147, u148, u149, u150, u151, u152, u153, u154, u155, u156, u157, u158, u159, u160, u161, u162, u163, u164, u165, u166, u167, u168, u169, u170, u171, u172, u173, u174, u175, u176, u177, u178, u179, u180, u181, u182, u183, u184, u185, u186, u187], []⟩ w')
    : Code.wp Try.prog ((frs 10 (Try.f34.body.getD .skip)).getD .skip) Q ⟨#[c0, .pointer (some ⟨bg, 0, none⟩), c2, c3, .pointer (some ⟨bn, 0, none⟩), c5, c6, c7, c8, c9, c10, c11, c12, c13, c14, c15, c16, c17, c18, c19, c20, c21, c22, c23, c24, c25, c26, c27, c28, c29, c30, c31, c32, c33, c34, c35, c36, c37, c38, c39, c40, c41, c42, c43, c44, c45, c46, c47, c48, c49, c50, c51, c52, c53, c54, c55, c56, c57, c58, c59, c60, c61, c62, c63, c64, c65, c66, c67, c68, c69, c70, c71, c72, c73, c74, c75, c76, c77, c78, c79, c80, c81, c82, c83, c84, c85, c86, c87, c88, c89, c90, c91, c92, c93, c94, c95, c96, c97, c98, c99, c100, c101, c102, c103, c104, c105, c106, c107, c108, c109, c110, c111, c112, c113, c114, c115, c116, c117, c118, c119, c120, c121, c122, c123, c124, c125, c126, c127, c128, c129, c130, c131, c132, c133, c134, c135, c136, c137, c138, c139, c140, c141, c142, c143, c144, c145, c146, c147, c148, c149, c150, c151, c152, c153, c154, c155, c156, c157, c158, c159, c160, c161, c162, c163, c164, c165, c166, c167, c168, c169, c170, c171, c172, c173, c174, c175, c176, c177, c178, c179, c180, c181, c182, c183, c184, c185, c186, c187], []⟩ w := by
  conv => arg 2; whnf

  have g0 := HG.out.cell 0
  have g1 := HG.out.cell 1
  dsimp only [List.getElem?_cons_succ, List.getElem?_cons_zero] at g0 g1
  go_wp2_with fail
  go_loopw [54] (fun u wr => ∃ i : Nat, i ≤ m ∧ u = .int .i64 (i : Int) ∧ (∀ j, j < i → EdgeOk (P : Int) f j) ∧ NetB wr bn be bd ce bk P (fun a b => btw f a b i) (fun a => deg f a i) ∧ Row wr bg 24 [.int .i64 (P : Int), .slice ea m ec] ∧ Below w0.heap.size w0 wr) (fun u _ => m - (intOf u).toNat)
  case atStart => exact ⟨0, Nat.zero_le _, rfl, fun j hj => absurd hj (Nat.not_lt_zero _), HNB.out, HG.out, HB.out⟩
  case round =>
    clear HNB HG HB g0 g1
    obtain ⟨i, him, rfl, hok', hnb, hg, hb⟩ := hrel
    have HOK := Lib.hid hok'
    have HNB := Lib.hid hnb
    have HG := Lib.hid hg
    have HB := Lib.hid hb
    clear hok' hnb hg hb
    by_cases hlt : i < m
    · --{ROUND
      obtain ⟨b, off, rfl, hbl, hrest⟩ := HER.out i hlt
      clear hrest
      have l1 := edges_range (fun i hi => by
        obtain ⟨b', o', e, h1, h2⟩ := HER.out i hi
        exact ⟨b', o', e, Nat.lt_of_lt_of_le h1 HB.out.size, fun j hj => by rw [HB.out.cell h1]; exact h2 j hj⟩) hlt (w := wr) (b := b) (off := off)
      have hi2 : (i : Int) < (m : Int) := by omega
      obtain ⟨A, hA⟩ : ∃ A, A = f i 0 := ⟨_, rfl⟩
      obtain ⟨Bq, hBq⟩ : ∃ Bq, Bq = f i 1 := ⟨_, rfl⟩
      obtain ⟨T, hT⟩ : ∃ T, T = f i 2 := ⟨_, rfl⟩
      rw [← hA, ← hBq, ← hT] at l1
      have HA := Lib.hid hA
      have HBQ := Lib.hid hBq
      have HT := Lib.hid hT
      clear hA hBq hT
      have hrow : Row (wr.alloc (.cells #[.int .i64 A, .int .i64 Bq, .int .i64 T] 27)) wr.heap.size 27 [.int .i64 A, .int .i64 Bq, .int .i64 T] := row_alloc wr _ _
      have hbn2 : Below wr.heap.size wr (wr.alloc (.cells #[.int .i64 A, .int .i64 Bq, .int .i64 T] 27)) := (Below.refl _ _).alloc (Nat.le_refl _) _
      have hbd7 : bd < wr.heap.size := HNB.out.rd.lt
      have hbn7 : bn < wr.heap.size := HNB.out.rn.lt
      have hbk7 : ∀ k, k < P → bk k < wr.heap.size := fun k hk => (HNB.out.rk k hk).lt
      have hbe7 : be < wr.heap.size := lt_of_cell (HNB.out.re 0 (by omega))
      have hbg7 : bg < wr.heap.size := HG.out.lt
      have HNB := Lib.hid (HNB.out.keep hbn2)
      have HG := Lib.hid (HG.out.keep hbn2 HG.out.lt)
      have HB := Lib.hid (HB.out.trans (hbn2.mono HB.out.size))
      have HE := Lib.hid hrow
      clear hbn2 hrow
      go_wp2_with (refine wpList_load_mid rfl 27 _ rfl b (off + i * 3) rfl _ _ l1 Try.underlying27 rfl infoEdge ?_)
      clear l1
      obtain ⟨b7, hb7⟩ : ∃ b7, b7 = wr.heap.size := ⟨_, rfl⟩
      rw [← hb7] at HE hbd7 hbn7 hbk7 hbe7 hbg7 ⊢
      have hlow : w0.heap.size ≤ b7 := by have := HD.out.ld; omega
      generalize wr.alloc (.cells #[.int .i64 A, .int .i64 Bq, .int .i64 T] 27) = w2 at *
      have HBK7 := Lib.hid hbk7
      clear hbk7
      clear hb7
      obtain ⟨q1, hq1⟩ : ∃ q, q = decide (0 ≤ A ∧ A < (P : Int)) := ⟨_, rfl⟩
      obtain ⟨q2, hq2⟩ : ∃ q, q = decide (0 ≤ Bq ∧ Bq < (P : Int)) := ⟨_, rfl⟩
      have HP1 := Lib.hid (place_any A (P : Int) bg _ w2 HG.out)
      have HP2 := Lib.hid (place_any Bq (P : Int) bg _ w2 HG.out)
      rw [← hq1] at HP1
      rw [← hq2] at HP2
      have HQ1 := Lib.hid hq1
      have HQ2 := Lib.hid hq2
      clear hq1 hq2
      have e0 := HE.out.cell 0
      have e1 := HE.out.cell 1
      have e2 := HE.out.cell 2
      dsimp only [List.getElem?_cons_succ, List.getElem?_cons_zero] at e0 e1 e2
      refine HP1.out.mono ?_
      rintro en w3 ⟨rfl, rfl⟩
      cases q1
      · have hno : ¬ EdgeOk (P : Int) f i := fun h => of_decide_eq_false HQ1.out.symm (by rw [HA.out]; exact ⟨h.1, h.2.1⟩)
        go_wp2_with fail
        exact hbad ⟨i, hlt, hno⟩ HB.out
      go_wp2_with fail
      refine HP2.out.mono ?_
      rintro en w3 ⟨rfl, rfl⟩
      cases q2
      · have hno : ¬ EdgeOk (P : Int) f i := fun h => of_decide_eq_false HQ2.out.symm (by rw [HBQ.out]; exact ⟨h.2.2.1, h.2.2.2.1⟩)
        go_wp2_with fail
        exact hbad ⟨i, hlt, hno⟩ HB.out
      obtain ⟨q3, hq3⟩ : ∃ q, q = (A == Bq) := ⟨_, rfl⟩
      have d3 := hq3.symm
      have HQ3 := Lib.hid hq3
      clear hq3
      cases q3
      case true =>
        have hno : ¬ EdgeOk (P : Int) f i := fun h => h.2.2.2.2.1 (by rw [← HA.out, ← HBQ.out]; exact eq_of_beq HQ3.out.symm)
        go_wp2_with fail
        exact hbad ⟨i, hlt, hno⟩ HB.out
      obtain ⟨q4, hq4⟩ : ∃ q, q = decide (T < 1) := ⟨_, rfl⟩
      have d4 := hq4.symm
      have HQ4 := Lib.hid hq4
      clear hq4
      cases q4
      case true =>
        have hno : ¬ EdgeOk (P : Int) f i := fun h => by
          have h1 := of_decide_eq_true HQ4.out.symm
          have h2 := h.2.2.2.2.2.1
          rw [← HT.out] at h2
          omega
        go_wp2_with fail
        exact hbad ⟨i, hlt, hno⟩ HB.out
      obtain ⟨q5, hq5⟩ : ∃ q, q = decide (100 < T) := ⟨_, rfl⟩
      have d5 := hq5.symm
      have HQ5 := Lib.hid hq5
      clear hq5
      cases q5
      case true =>
        have hno : ¬ EdgeOk (P : Int) f i := fun h => by
          have h1 := of_decide_eq_true HQ5.out.symm
          have h2 := h.2.2.2.2.2.2
          rw [← HT.out] at h2
          omega
        go_wp2_with fail
        exact hbad ⟨i, hlt, hno⟩ HB.out
      have hyes : EdgeOk (P : Int) f i := by
        have h1 := of_decide_eq_true HQ1.out.symm
        have h2 := of_decide_eq_true HQ2.out.symm
        have h3 := HQ3.out.symm
        have h4 := of_decide_eq_false HQ4.out.symm
        have h5 := of_decide_eq_false HQ5.out.symm
        rw [beq_eq_false_iff_ne] at h3
        rw [HA.out] at h1 h3
        rw [HBQ.out] at h2 h3
        rw [HT.out] at h4 h5
        exact ⟨h1.1, h1.2, h2.1, h2.2, h3, by omega, by omega⟩
      go_upto_region 16 with fail
      have HYES := Lib.hid hyes
      have hN := hyes.nat
      have HEK := Lib.hid hN
      obtain ⟨a, ha⟩ : ∃ a, a = eA f i := ⟨_, rfl⟩
      obtain ⟨c, hcc⟩ : ∃ c, c = eB f i := ⟨_, rfl⟩
      obtain ⟨tt, htt⟩ : ∃ tt, tt = eT f i := ⟨_, rfl⟩
      have al := hN.al
      have cl := hN.bl
      have hac := hN.ne
      have t1 := hN.tl
      have t100 := hN.th
      have HNX := Lib.hid (btw_next hN)
      have HDX := Lib.hid (deg_next hN)
      rw [← ha, ← hcc, ← htt] at HNX
      rw [← ha, ← hcc, ← htt] at HDX
      rw [← ha] at al
      rw [← hcc] at cl
      rw [← ha, ← hcc] at hac
      rw [← htt] at t1 t100
      obtain rfl : A = (a : Int) := by rw [HA.out, hN.a, ha]
      obtain rfl : Bq = (c : Int) := by rw [HBQ.out, hN.b, hcc]
      obtain rfl : T = (tt : Int) := by rw [HT.out, hN.t, htt]
      have hEN : ∀ j, j < i → EdgeN P f j := fun j hj => (HOK.out j hj).nat
      have HBT : Hid (∀ x y, btw f x y i ≤ 4000) := fun x y => Nat.le_trans (btw_le hEN) (by omega)
      have HDT : Hid (∀ x, deg f x i ≤ 4000) := fun x => Nat.le_trans (deg_le hEN) (by omega)
      have al2 : (a : Int) < (P : Int) := by omega
      have cl2 : (c : Int) < (P : Int) := by omega
      clear HA HBQ HT HQ1 HQ2 HQ3 HQ4 HQ5 HP1 HP2 hN ha hcc htt hEN hyes e0 e1 e2 d3 d4 d5

      have e0 := HE.out.cell 0
      have e1 := HE.out.cell 1
      have e2 := HE.out.cell 2
      have n0 := HNB.out.rn.cell 0
      dsimp only [List.getElem?_cons_succ, List.getElem?_cons_zero] at e0 e1 e2 n0
      have n1 := HNB.out.re a al
      have n2 := (HNB.out.rk a al).cell cl
      have n3 := (HNB.out.rk a al).frozen c
      have hkx : bk a < b7 := HBK7.out a al
      have hgx : bk a ≠ bg := hbgk.out a al
      have hlx : w0.heap.size ≤ bk a := HD.out.lk a al
      obtain ⟨v, hv⟩ : ∃ v, v = btw f a c i := ⟨_, rfl⟩
      have hv40 : v ≤ 4000 := by rw [hv]; exact HBT.out a c
      try dsimp only at n2
      rw [← hv] at n2
      have HV := Lib.hid hv
      clear hv
      have hset := setE_add (v := v) (t := tt) HNB.out HD.out al cl
      have ho := only_setCell w2 (bk a) c (.int .i64 ((v : Int) + (tt : Int)))
      have HNB := Lib.hid hset.drew
      have HE := Lib.hid (HE.out.other ho (by omega)).drew
      have HG := Lib.hid (HG.out.other ho (by omega)).drew
      have HB := Lib.hid (HB.out.trans ((ho.below (by omega)).trans (Below.refl _ _).drew))
      clear hset ho
      go_upto_region 16 with fail
      go_cut [] from 88 to 103 (fun wx => wx = (w2.setCell ⟨bk a, c, none⟩ (.int .i64 ((v : Int) + (tt : Int)))).drew)
      case first =>
        refine wp_region_noPanic ?_
        go_region
        refine NoPanic.normal ?_
        go_wp2_with fail
        go_meet
        case rel => rfl
      case rest =>
      subst hcut
      clear n0 n1 n2 n3 e0 e1 e2
      try clear hkx hgx hlx
      generalize (w2.setCell ⟨bk a, c, none⟩ (.int .i64 ((v : Int) + (tt : Int)))).drew = w9 at *
      obtain ⟨w2, hw2⟩ : ∃ w2 : World, w2 = w9 := ⟨_, rfl⟩
      rw [← hw2] at HNB HE HG HB ⊢
      clear hw2
      rw [HV.out] at HNB
      clear HV
      clear hv40

      have e0 := HE.out.cell 0
      have e1 := HE.out.cell 1
      have e2 := HE.out.cell 2
      have n0 := HNB.out.rn.cell 0
      dsimp only [List.getElem?_cons_succ, List.getElem?_cons_zero] at e0 e1 e2 n0
      have n1 := HNB.out.re c cl
      have n2 := (HNB.out.rk c cl).cell al
      have n3 := (HNB.out.rk c cl).frozen a
      have hkx : bk c < b7 := HBK7.out c cl
      have hgx : bk c ≠ bg := hbgk.out c cl
      have hlx : w0.heap.size ≤ bk c := HD.out.lk c cl
      obtain ⟨v, hv⟩ : ∃ v, v = btw f c a i := ⟨_, rfl⟩
      have hv40 : v ≤ 4000 := by rw [hv]; exact HBT.out c a
      try dsimp only at n2
      rw [updE_no (fun h => hac h.1.symm), ← hv] at n2
      have HV := Lib.hid hv
      clear hv
      have hset := setE_add (v := v) (t := tt) HNB.out HD.out cl al
      have ho := only_setCell w2 (bk c) a (.int .i64 ((v : Int) + (tt : Int)))
      have HNB := Lib.hid hset.drew
      have HE := Lib.hid (HE.out.other ho (by omega)).drew
      have HG := Lib.hid (HG.out.other ho (by omega)).drew
      have HB := Lib.hid (HB.out.trans ((ho.below (by omega)).trans (Below.refl _ _).drew))
      clear hset ho
      go_upto_region 17 with fail
      go_cut [] from 104 to 119 (fun wx => wx = (w2.setCell ⟨bk c, a, none⟩ (.int .i64 ((v : Int) + (tt : Int)))).drew)
      case first =>
        refine wp_region_noPanic ?_
        go_region
        refine NoPanic.normal ?_
        go_wp2_with fail
        go_meet
        case rel => rfl
      case rest =>
      subst hcut
      clear n0 n1 n2 n3 e0 e1 e2
      try clear hkx hgx hlx
      generalize (w2.setCell ⟨bk c, a, none⟩ (.int .i64 ((v : Int) + (tt : Int)))).drew = w9 at *
      obtain ⟨w2, hw2⟩ : ∃ w2 : World, w2 = w9 := ⟨_, rfl⟩
      rw [← hw2] at HNB HE HG HB ⊢
      clear hw2
      rw [HV.out] at HNB
      clear HV
      clear hv40

      have e0 := HE.out.cell 0
      have e1 := HE.out.cell 1
      have e2 := HE.out.cell 2
      have n0 := HNB.out.rn.cell 1
      dsimp only [List.getElem?_cons_succ, List.getElem?_cons_zero] at e0 e1 e2 n0
      have n1 := HD.out.ld
      have n2 := HNB.out.rd.cell al
      have n3 := HNB.out.rd.frozen a
      obtain ⟨v, hv⟩ : ∃ v, v = deg f a i := ⟨_, rfl⟩
      have hv40 : v ≤ 4000 := by rw [hv]; exact HDT.out a
      try dsimp only at n2
      rw [← hv] at n2
      have HV := Lib.hid hv
      clear hv
      have hset := setD_add (v := v) (t := tt) HNB.out HD.out al
      have ho := only_setCell w2 bd a (.int .i64 ((v : Int) + (tt : Int)))
      have HNB := Lib.hid hset.drew
      have HE := Lib.hid (HE.out.other ho (by omega)).drew
      have HG := Lib.hid (HG.out.other ho (by omega)).drew
      have HB := Lib.hid (HB.out.trans ((ho.below (by omega)).trans (Below.refl _ _).drew))
      clear hset ho
      go_upto_region 18 with fail
      go_cut [] from 120 to 131 (fun wx => wx = (w2.setCell ⟨bd, a, none⟩ (.int .i64 ((v : Int) + (tt : Int)))).drew)
      case first =>
        refine wp_region_noPanic ?_
        go_region
        refine NoPanic.normal ?_
        go_wp2_with fail
        go_meet
        case rel => rfl
      case rest =>
      subst hcut
      clear n0 n1 n2 n3 e0 e1 e2
      try clear hkx hgx hlx
      generalize (w2.setCell ⟨bd, a, none⟩ (.int .i64 ((v : Int) + (tt : Int)))).drew = w9 at *
      obtain ⟨w2, hw2⟩ : ∃ w2 : World, w2 = w9 := ⟨_, rfl⟩
      rw [← hw2] at HNB HE HG HB ⊢
      clear hw2
      rw [HV.out] at HNB
      clear HV
      clear hv40

      have e0 := HE.out.cell 0
      have e1 := HE.out.cell 1
      have e2 := HE.out.cell 2
      have n0 := HNB.out.rn.cell 1
      dsimp only [List.getElem?_cons_succ, List.getElem?_cons_zero] at e0 e1 e2 n0
      have n1 := HD.out.ld
      have n2 := HNB.out.rd.cell cl
      have n3 := HNB.out.rd.frozen c
      obtain ⟨v, hv⟩ : ∃ v, v = deg f c i := ⟨_, rfl⟩
      have hv40 : v ≤ 4000 := by rw [hv]; exact HDT.out c
      try dsimp only at n2
      rw [updN_no (fun h => hac h.symm), ← hv] at n2
      have HV := Lib.hid hv
      clear hv
      have hset := setD_add (v := v) (t := tt) HNB.out HD.out cl
      have ho := only_setCell w2 bd c (.int .i64 ((v : Int) + (tt : Int)))
      have HNB := Lib.hid hset.drew
      have HE := Lib.hid (HE.out.other ho (by omega)).drew
      have HG := Lib.hid (HG.out.other ho (by omega)).drew
      have HB := Lib.hid (HB.out.trans ((ho.below (by omega)).trans (Below.refl _ _).drew))
      clear hset ho
      go_upto_region 19 with fail
      refine wp_region_noPanic ?_
      go_region
      refine NoPanic.normal ?_
      clear n0 n1 n2 n3 e0 e1 e2
      try clear hkx hgx hlx
      generalize (w2.setCell ⟨bd, c, none⟩ (.int .i64 ((v : Int) + (tt : Int)))).drew = w9 at *
      obtain ⟨w2, hw2⟩ : ∃ w2 : World, w2 = w9 := ⟨_, rfl⟩
      rw [← hw2] at HNB HE HG HB ⊢
      clear hw2
      rw [HV.out] at HNB
      clear HV
      clear hv40
      have HNB := Lib.hid (HNB.out.congr HNX.out HDX.out)
      have HOK2 : Hid (∀ j, j < i + 1 → EdgeOk (P : Int) f j) := fun j hj => by
        by_cases e : j = i
        · rw [e]; exact HYES.out
        · exact HOK.out j (by omega)
      go_wp2_with fail
      go_roundw
      case rel => exact ⟨i + 1, by omega, by go_num, HOK2.out, HNB.out, HG.out, HB.out⟩
      case measure => simp [intOf]; omega
      --}
    · --{END
      obtain rfl : i = m := by omega
      have HOE : Hid (∀ j, j < i → EdgeOk (P : Int) f j) := HOK.out
      have HEN : Hid (∀ j, j < i → EdgeN P f j) := fun j hj => (HOK.out j hj).nat
      go_upto_if 55 with fail
      go_step
      go_step
      go_step
      apply_assumption
      refine net3 P i f bg bn (.slice ea i ec) w0 wr hP1 hP10 HEN (Lib.hid HNB.out.net) HG HB _ _ _ _ _ _ _ _ _ _ _ _ _ _ _ _ _ _ _ _ _ _ _ _ _ _ _ _ _ _ _ _ _ _ _ _ _ _ _ _ _ _ _ _ _ _ _ _ _ _ _ _ _ _ _ _ _ _ _ _ _ _ _ _ _ _ _ _ _ _ _ _ _ _ _ _ _ _ _ _ _ _ _ _ _ _ _ _ _ _ _ _ _ _ _ _ _ _ _ _ _ _ _ _ _ _ _ _ _ _ _ _ _ _ _ _ _ _ _ _ _ _ _ _ _ _ _ _ _ _ _ _ _ _ _ _ _ _ _ _ _ _ _ _ _ _ _ _ _ _ _ _ _ _ _ _ _ _ _ _ _ _ _ _ _ _ _ _ _ _ _ _ _ _ _ _ _ _ _ _ _ _ _ _ _ _ _ ?_ ?_
      · intros; exact hapart HOE.out (by assumption) (by assumption)
      · intros; exact hok HOE.out (by assumption) (by assumption) (by assumption)
      --}
end Rt
end Go.Proofs.Ytjikildiblchpaa
