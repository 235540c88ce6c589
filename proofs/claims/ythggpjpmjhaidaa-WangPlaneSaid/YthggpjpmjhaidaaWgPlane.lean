/- WALK: the law WangPlane, its last piece: the window, and the two questions. -/
import Derived.Test.YthggpjpmjhaidaaWgCs
import Derived.Test.YthggpjpmjhaidaaPc
import Derived.Test.YthggpjpmjhaidaaWgFb
import Derived.Test.YthggpjpmjhaidaaWgDc
import Derived.Deep.RegionHeld3
import Derived.Deep.RegionLaw
namespace Go.Proofs.Ythggpjpmjhaidaa
set_option linter.unusedSimpArgs false
set_option linter.unusedVariables false
open Go.RowKit Go.Lib
namespace Wg
open Tld Mem

/-- The window's numbers. -/
def winF (l : List Nat) (W H wide right down k : Nat) : Nat := l.getD ((down + k / wide) % H * W + (right + k % wide) % W) 0
def win (l : List Nat) (W H wide right down m : Nat) : List Nat := (List.range m).map (winF l W H wide right down)
theorem win_succ (l : List Nat) (W H wide right down m : Nat) : win l W H wide right down (m + 1) = win l W H wide right down m ++ [winF l W H wide right down m] := by
  unfold win; rw [List.range_succ, List.map_append]; rfl
theorem win_len (l : List Nat) (W H wide right down m : Nat) : (win l W H wide right down m).length = m := by unfold win; simp
theorem win_get {l : List Nat} {W H wide right down m k : Nat} (h : k < m) : (win l W H wide right down m).getD k 0 = winF l W H wide right down k := by
  unfold win; rw [List.getD_eq_getElem?_getD, List.getElem?_map, List.getElem?_range h]; rfl
theorem win_idx {W H wide right down k : Nat} (hW : 0 < W) (hH : 0 < H) : (down + k / wide) % H * W + (right + k % wide) % W < W * H := at_lt (Nat.mod_lt _ hW) (Nat.mod_lt _ hH)
theorem win_bd {l : List Nat} {n W H wide right down m : Nat} (hW : 0 < W) (hH : 0 < H) (hl : l.length = W * H) (hb : ∀ x ∈ l, x < n) : ∀ x ∈ win l W H wide right down m, x < n := by
  intro x hx
  unfold win at hx
  obtain ⟨k, _, rfl⟩ := List.mem_map.1 hx
  have hi : (down + k / wide) % H * W + (right + k % wide) % W < l.length := by rw [hl]; exact win_idx hW hH
  unfold winF
  rw [List.getD_eq_getElem?_getD, List.getElem?_eq_getElem hi]
  exact hb _ (List.getElem_mem hi)
theorem win_good {T : Nat → Tl} {l : List Nat} {W H wide high right down : Nat} (hW : 0 < W) (hH : 0 < H) (hw : 0 < wide) (hh : 0 < high) (hg : Good W H true (tl T l)) : Good wide high false (tl T (win l W H wide right down (wide * high))) := by
  refine (window (wide := wide) (high := high) (right := right) (down := down) hW hH hg).congr hw hh fun k hk => ?_
  show tl T l _ = tl T _ k
  unfold tl
  rw [win_get hk]; rfl
theorem step_append1 {P : Program} {ops : Array Oper} {o : Oper} {a : Act} {w : World} {K : Act → World → Prop} {Q : Exit → Act → World → Prop} {E : Prop} (hgd : o.guard = none) (x y : Operand) (t : TypeId)
    (ho : o.op = .call { callee := .builtin .append, args := #[x, y], argTypes := #[t, t] })
    (B : Nat) (e : TypeId) (i : TypeInfo) (z : Value) (bytes : Nat) (ht : P.underlying t = some (.slice e)) (hi : P.info? e = some i) (hz : i.zero = some z) (hz1 : z.cells.size = 1) (hsize : i.size = 1) (hby : i.bytes = bytes)
    (v : Value) (n : Nat) (xs : List Value) (hs : a.eval x = v) (hown : w.ownsRow B e 1 v n xs) (ad : Addr) (c : Nat) (u : Value) (hy : a.eval y = .slice (some ad) 1 c) (hu : w.cell? ad = some u) (h1 : u.oneCell' = true)
    (h63 : n + 1 ≤ maxLen) (hbytes : (n + 1) * bytes ≤ 140737488355328) (hB : B ≤ w.heap.size)
    (hK : ∀ ao co w', w'.ownsRow B e 1 (.slice ao (n + 1) co) (n + 1) (xs ++ [u]) → w.grownBy w' v.ownBlock → K (a.put o.dst (.slice ao (n + 1) co)) w') :
    if Region.wanted o (yielded ops a.tmps) = true then Oper.wp P o a w K Q else E := by
  have hw : Region.wanted o (yielded ops a.tmps) = true := by simp [Region.wanted, hgd]
  rw [if_pos hw]
  refine wp_append_own w x y t ho B e i z 1 bytes ht hi hz hsize hby hz1 (by decide) v n xs hs hown ad 1 c [u] hy rfl (fun j q hj => ?_) (fun q hq => by simp at hq; subst hq; exact h1) h63 hbytes hB fun v' w' ho' hg _ => ?_
  · match j, hj with
    | 0, hj =>
      simp at hj; subst hj
      have : ad.add 0 = ad := by simp [Addr.add]
      rw [this]; exact hu
    | j + 1, hj => simp at hj
  · rcases ho'.2 with ⟨_, h0⟩ | ⟨g, cap, cur, hv, _⟩
    · omega
    · subst hv
      exact hK _ _ _ ho' hg
theorem cell_grown {w w' : World} {B b o n : Nat} {e : TypeId} {v : Value} {xs : List Value} (hg : w.grownBy w' v.ownBlock) (ho : w.ownsRow B e 1 v n xs) (hb : b < B) (hl : b < w.heap.size) : w'.cell? ⟨b, o, none⟩ = w.cell? ⟨b, o, none⟩ :=
  World.cell?_of_block (hg.block b hl (fun e => by have := own_low ho b e.symm; omega))
theorem mod_sum (a b H : Nat) : ((a : Int) + (b : Int)).tmod (H : Int) = (((a + b) % H : Nat) : Int) := by
  rw [show ((a : Int) + (b : Int)) = ((a + b : Nat) : Int) from by push_cast; rfl]
  exact Int.ofNat_tmod _ _

set_option maxHeartbeats 4000000 in
set_option maxRecDepth 1000000 in
theorem plane_last (n c : Nat) (a : Option Addr) (ts : List Tl) (W H wide high right down b18 cc : Nat) (ad : Option Addr) (l : List Nat) (w0 w : World)
    (hW1 : 1 ≤ W) (hW5 : W ≤ 5) (hH1 : 1 ≤ H) (hH5 : H ≤ 5) (hw1 : 1 ≤ wide) (hw5 : wide ≤ 5) (hh1 : 1 ≤ high) (hh5 : high ≤ 5) (hr : right ≤ 1000000) (hd : down ≤ 1000000) (hB18 : w0.heap.size ≤ b18)
    (HT : Hid (Tiles w0 a n ts)) (HZ : Hid (tfault ts = 0)) (HLL : Hid (l.length = W * H)) (HLB : Hid (∀ x ∈ l, x < n)) (HG : Hid (Good W H true (tl (fun i => ts.getD i noTile) l)))
    (HR18 : Hid (Row w b18 31 [.bool true, .int .i64 W, .int .i64 H, .slice ad l.length cc])) (HC : Hid (Cells w ad l.length (fun i => .int .i64 ((casts l).getD i 0)))) (HB : Hid (Below w0.heap.size w0 w))
    (c1 c6 c7 c8 c9 c10 c11 c12 c13 c14 c15 c16 c17 c19 c20 c21 c22 c23 c24 c25 c26 c27 c28 c29 c30 c31 c32 c33 c34 c35 c36 c37 c38 c39 c40 c41 c42 c43 c44 c45 c46 c47 c48 c49 c50 c51 c52 c53 c54 c55 c56 c57 c58 c59 c60 c61 c62 c63 c64 c65 c66 c67 c68 c69 c70 c71 c72 c73 c74 c75 c76 c77 c78 c79 c80 c81 c82 c83 c84 c85 c86 c87 c88 c89 c90 c91 c92 c93 c94 c95 c96 c97 c98 c99 c100 c101 c102 c103 c104 c105 c106 c107 c108 c109 c110 c111 c112 c113 c114 c115 c116 c117 c118 c119 c120 c121 c122 c123 c124 c125 c126 c127 c128 c129 c130 c131 c132 c133 c134 c135 c136 c137 c138 c139 c140 c141 c142 c143 c144 c145 c146 c147 c148 c149 c150 c151 c152 c153 c154 c155 c156 c157 c158 c159 c160 c161 c162 c163 c164 c165 c166 c167 c168 c169 c170 c171 c172 c173 c174 c175 c176 c177 c178 c179 c180 c181 c182 c183 c184 c185 c186 c187 c188 c189 c190 c191 c192 c193 c194 c195 c196 c197 c198 c199 c200 c201 c202 c203 c204 c205 c206 c207 c208 c209 c210 c211 : Value) (Q : Exit → Act → World → Prop)
    (hret : ∀ {u22 u23 u24 u25 u26 u27 u28 u29 u147 u148 u149 u150 u151 u152 u153 u154 u155 u156 u157 u158 u159 u160 u161 u162 u163 u164 u165 u166 u167 u168 u169 u170 u171 u172 u173 u174 u175 u176 u177 u178 u179 u180 u181 u182 u183 u184 u185 u186 u187 u188 u189 u190 u191 u192 u193 u194 u195 u196 u197 u198 u199 u200 u201 u202 u203 u204 u205 u206 u207 u208 u209 u210 u211 : Value} {w' : World}, Below w0.heap.size w0 w' → Q .ret ⟨#[.slice a n c, c1, .int .i64 (wide : Int), .int .i64 (high : Int), .int .i64 (right : Int), .int .i64 (down : Int), c6, c7, c8, c9, c10, c11, c12, c13, .bool true, c15, c16, c17, .pointer (some ⟨b18, 0, none⟩), c19, c20, c21, u22, u23, u24, u25, u26, u27, u28, u29, c30, c31, c32, c33, c34, c35, c36, c37, c38, c39, c40, c41, c42, c43, c44, c45, c46, c47, c48, c49, c50, c51, c52, c53, c54, c55, c56, c57, c58, c59, c60, c61, c62, c63, c64, c65, c66, c67, c68, c69, c70, c71, c72, c73, c74, c75, c76, c77, c78, c79, c80, c81, c82, c83, c84, c85, c86, c87, c88, c89, c90, c91, c92, c93, c94, c95, c96, c97, c98, c99, c100, c101, c102, c103, c104, c105, c106, c107, c108, c109, c110, c111, c112, c113, c114, c115, c116, c117, c118, c119, c120, c121, c122, c123, c124, c125, c126, c127, c128, c129, c130, c131, c132, c133, c134, c135, c136, c137, c138, c139, c140, c141, c142, c143, c144, c145, c146, u147, u148, u149, u150, u151, u152, u153, u154, u155, u156, u157, u158, u159, u160, u161, u162, u163, u164, u165, u166, u167, u168, u169, u170, u171, u172, u173, u174, u175, u176, u177, u178, u179, u180, u181, u182, u183, u184, u185, u186, u187, u188, u189, u190, u191, u192, u193, u194, u195, u196, u197, u198, u199, u200, u201, u202, u203, u204, u205, u206, u207, u208, u209, u210, u211], []⟩ w')
    : Code.wp Try.prog ((Pc.frm 13 (Try.f4.body.getD .skip)).getD .skip) Q ⟨#[.slice a n c, c1, .int .i64 (wide : Int), .int .i64 (high : Int), .int .i64 (right : Int), .int .i64 (down : Int), c6, c7, c8, c9, c10, c11, c12, c13, c14, c15, c16, c17, .pointer (some ⟨b18, 0, none⟩), c19, c20, c21, c22, c23, c24, c25, c26, c27, c28, c29, c30, c31, c32, c33, c34, c35, c36, c37, c38, c39, c40, c41, c42, c43, c44, c45, c46, c47, c48, c49, c50, c51, c52, c53, c54, c55, c56, c57, c58, c59, c60, c61, c62, c63, c64, c65, c66, c67, c68, c69, c70, c71, c72, c73, c74, c75, c76, c77, c78, c79, c80, c81, c82, c83, c84, c85, c86, c87, c88, c89, c90, c91, c92, c93, c94, c95, c96, c97, c98, c99, c100, c101, c102, c103, c104, c105, c106, c107, c108, c109, c110, c111, c112, c113, c114, c115, c116, c117, c118, c119, c120, c121, c122, c123, c124, c125, c126, c127, c128, c129, c130, c131, c132, c133, c134, c135, c136, c137, c138, c139, c140, c141, c142, c143, c144, c145, c146, c147, c148, c149, c150, c151, c152, c153, c154, c155, c156, c157, c158, c159, c160, c161, c162, c163, c164, c165, c166, c167, c168, c169, c170, c171, c172, c173, c174, c175, c176, c177, c178, c179, c180, c181, c182, c183, c184, c185, c186, c187, c188, c189, c190, c191, c192, c193, c194, c195, c196, c197, c198, c199, c200, c201, c202, c203, c204, c205, c206, c207, c208, c209, c210, c211], []⟩ w := by
  conv => arg 2; whnf
  have h25 : W * H ≤ 25 := Nat.le_trans (Nat.mul_le_mul hW5 hH5) (by omega)
  have hl25 : l.length ≤ 25 := by rw [HLL.out]; exact h25
  have h251 : wide * high ≤ 25 := Nat.le_trans (Nat.mul_le_mul hw5 hh5) (by omega)
  obtain ⟨i0, hi0, hz0, hz1, hz2⟩ := info_parts infoInt
  have HI0 := Lib.hid hi0
  have HZ0 := Lib.hid hz0
  have HZ1 := Lib.hid hz1
  have HZ2 := Lib.hid hz2
  clear hi0 hz0 hz1 hz2
  obtain ⟨bl, ol, rfl, hbl⟩ : ∃ bl ol, ad = some ⟨bl, ol, none⟩ ∧ bl < w.heap.size := by
    have := Nat.mul_pos hW1 hH1
    obtain ⟨bl, ol, e, hlt, _⟩ := HC.out 0 (by rw [HLL.out]; omega)
    exact ⟨bl, ol, e, hlt⟩
  have hb18 := HR18.out.lt
  obtain ⟨B1, hB1⟩ : ∃ B1, B1 = w.heap.size := ⟨_, rfl⟩
  have HB1 := Lib.hid hB1
  rw [← hB1] at hbl hb18
  clear hB1
  have HKEEP : Hid (∀ wr, Below B1 w wr → Row wr b18 31 [.bool true, .int .i64 W, .int .i64 H, .slice (some ⟨bl, ol, none⟩) l.length cc] ∧ Cells wr (some ⟨bl, ol, none⟩) l.length (fun i => .int .i64 ((casts l).getD i 0)) ∧ Below w0.heap.size w0 wr) := fun wr hb =>
    ⟨HR18.out.keep hb hb18, HC.out.below hb (by rw [HB1.out]; exact Nat.le_refl _), HB.out.trans (hb.mono (by have := HB.out.size; rw [HB1.out]; exact this))⟩
  clear HR18 HC
  go_wp2_with fail
  go_loopw [22, 23] (fun v u wr => ∃ y : Nat, y ≤ high ∧ u = .int .i64 y ∧ wr.ownsRow B1 3 1 v (y * wide) (nats (win l W H wide right down (y * wide))) ∧ Below B1 w wr) (fun _ u _ => high - (intOf u).toNat)
  case atStart => exact ⟨0, Nat.zero_le _, rfl, by rw [Nat.zero_mul]; exact own_nil _ _, Below.refl _ _⟩
  case round =>
    obtain ⟨y, hy, rfl, hown, hbel⟩ := hrel
    have HO := Lib.hid hown
    have HBE := Lib.hid hbel
    have hszr := hbel.size
    rw [← HB1.out] at hszr
    clear hown hbel
    by_cases hlt : y < high
    case pos =>
      obtain ⟨wo, rfl⟩ : ∃ wo : World, wo = wr := ⟨_, rfl⟩
      go_wp2_with fail
      go_loopw [22, 24] (fun v u wr => ∃ x : Nat, x ≤ wide ∧ u = .int .i64 x ∧ wr.ownsRow B1 3 1 v (y * wide + x) (nats (win l W H wide right down (y * wide + x))) ∧ Below B1 w wr) (fun _ u _ => wide - (intOf u).toNat)
      case atStart => exact ⟨0, Nat.zero_le _, rfl, HO.out, HBE.out⟩
      case round =>
        clear HO HBE hszr
        obtain ⟨x, hx, rfl, hown, hbel⟩ := hrel
        have HO := Lib.hid hown
        have HBE := Lib.hid hbel
        have hszr := hbel.size
        rw [← HB1.out] at hszr
        clear hown hbel
        by_cases hxw : x < wide
        case pos =>
          have hm : y * wide + x < wide * high := at_lt hxw hlt
          obtain ⟨m, hme⟩ : ∃ m, m = y * wide + x := ⟨_, rfl⟩
          obtain ⟨K, hK⟩ : ∃ K, K = (down + y) % H := ⟨_, rfl⟩
          obtain ⟨q, hq⟩ : ∃ q, q = (right + x) % W := ⟨_, rfl⟩
          obtain ⟨kk, hkk⟩ : ∃ kk, kk = K * W := ⟨_, rfl⟩
          have hKH : K < H := by rw [hK]; exact Nat.mod_lt _ hH1
          have hqW : q < W := by rw [hq]; exact Nat.mod_lt _ hW1
          have hidx : kk + q < l.length := by rw [HLL.out, hkk]; exact at_lt hqW hKH
          have e1 : ((down : Int) + (y : Int)).tmod (H : Int) = (K : Int) := by rw [hK]; exact mod_sum down y H
          have e2 : ((right : Int) + (x : Int)).tmod (W : Int) = (q : Int) := by rw [hq]; exact mod_sum right x W
          have e3 : (K : Int) * (W : Int) = (kk : Int) := by rw [hkk]; push_cast; rfl
          have e4 : ((kk : Int) + (q : Int)).toNat = kk + q := by omega
          have e5 : 0 ≤ (kk : Int) + (q : Int) ∧ (kk : Int) + (q : Int) < (l.length : Int) := by omega
          have hel : (casts l).getD (kk + q) 0 = ((winF l W H wide right down m : Nat) : Int) := by
            rw [casts_get]
            unfold winF
            rw [hme, at_div hxw, at_mod hxw, ← hK, ← hq, ← hkk]
          have HEL := Lib.hid hel
          have HME := Lib.hid hme
          have hm25 : m < 25 := by omega
          have hH0 : ¬ H = 0 := by omega
          have hW0 : ¬ W = 0 := by omega
          have g1 := (HKEEP.out wr HBE.out).1.cell 1
          have g2 := (HKEEP.out wr HBE.out).1.cell 2
          dsimp only [List.getElem?_cons_succ, List.getElem?_cons_zero] at g1 g2
          have u1 : IntKind.i64.wrap ((down : Int) + (y : Int)) = (down : Int) + (y : Int) := by rw [IntKind.wrap_i64]; omega
          have u2 : IntKind.i64.wrap (K : Int) = (K : Int) := by rw [IntKind.wrap_i64]; omega
          have u3 : IntKind.i64.wrap (kk : Int) = (kk : Int) := by rw [IntKind.wrap_i64]; omega
          clear hel hme hK hq hkk
          obtain ⟨e5, e6⟩ := e5
          go_upto_region 20 with fail
          go_big_quiet (fail)
          have HBE1 := Lib.hid (below_drewN HBE.out nq)
          have HO1 := Lib.hid (own_keep HO.out (below_drewN (Below.refl _ _) nq))
          clear HBE HO g1 g2 e1 e3 u1 u2 u3 hszr
          generalize wr.drewN nq = w1 at *
          have hszr := HBE1.out.size
          rw [← HB1.out] at hszr
          obtain ⟨hr1, hc1, _⟩ := HKEEP.out w1 HBE1.out
          have HR1 := Lib.hid hr1
          have HC1 := Lib.hid hc1
          clear hr1 hc1
          go_upto_region 21 with fail
          have g1 := HR1.out.cell 1
          have g3 := HR1.out.cell 3
          dsimp only [List.getElem?_cons_succ, List.getElem?_cons_zero] at g1 g3
          have hce : w1.cell? ⟨bl, ol + (kk + q), none⟩ = some (.int .i64 ((winF l W H wide right down m : Nat) : Int)) := by
            obtain ⟨b', o', ee, hlt', hcc⟩ := HC1.out (kk + q) hidx
            cases ee
            rw [hcc]
            dsimp only
            rw [HEL.out]
          have u4 : IntKind.i64.wrap ((right : Int) + (x : Int)) = (right : Int) + (x : Int) := by rw [IntKind.wrap_i64]; omega
          have u5 : IntKind.i64.wrap (q : Int) = (q : Int) := by rw [IntKind.wrap_i64]; omega
          have u6 : IntKind.i64.wrap ((kk : Int) + (q : Int)) = (kk : Int) + (q : Int) := by rw [IntKind.wrap_i64]; omega
          have hle : bl < w1.heap.size := by
            obtain ⟨b', o', ee, hlt', hcc⟩ := HC1.out (kk + q) hidx
            cases ee
            exact hlt'
          obtain ⟨el, hel2⟩ : ∃ el, el = winF l W H wide right down m := ⟨_, rfl⟩
          have HEL2 := Lib.hid hel2
          rw [← hel2] at hce
          clear hel2
          have hb18' : b18 < w1.heap.size := by omega
          go_region_held3 (fun w' => w'.cell? ⟨b18, 1, none⟩ = some (.int .i64 (W : Int)) ∧ w'.cell? ⟨b18, 3, none⟩ = some (.slice (some ⟨bl, ol, none⟩) l.length cc) ∧ w'.cell? ⟨bl, ol + (kk + q), none⟩ = some (.int .i64 (el : Int)))
            (first
              | go_keep
              | (refine ⟨?_, ?_, ?_⟩
                 · exact (cell_grown hg2 HOA.out hb18 (by simp; omega)).trans (((((Below.refl _ w1).alloc (Nat.le_refl _) (.cells #[.int .i64 (el : Int)] 3)).drew).cell (p := ⟨b18, 1, none⟩) hb18').trans g1)
                 · exact (cell_grown hg2 HOA.out hb18 (by simp; omega)).trans (((((Below.refl _ w1).alloc (Nat.le_refl _) (.cells #[.int .i64 (el : Int)] 3)).drew).cell (p := ⟨b18, 3, none⟩) hb18').trans g3)
                 · exact (cell_grown hg2 HOA.out hbl (by simp; omega)).trans (((((Below.refl _ w1).alloc (Nat.le_refl _) (.cells #[.int .i64 (el : Int)] 3)).drew).cell (p := ⟨bl, ol + (kk + q), none⟩) hle).trans hce)))
            ((have HOA := Lib.hid (own_keep HO1.out (((Below.refl _ w1).alloc (Nat.le_refl _) (.cells #[.int .i64 (el : Int)] 3)).drew)); refine step_append1 (by rfl) _ _ 27 (by rfl) B1 3 i0 (.int .i64 0) 8 Try.underlying27 HI0.out HZ0.out rfl HZ1.out HZ2.out _ _ _ (by rfl) HOA.out ⟨w1.heap.size, 0, none⟩ 1 (.int .i64 (el : Int)) (by rfl) ((row_alloc w1 3 [.int .i64 (el : Int)]).drew.cell 0) rfl (by unfold maxLen; omega) (by omega) (by simp; omega) ?_; intro ao co w2 hO2 hg2))
          have HO2 : Hid (w2.ownsRow B1 3 1 (.slice ao (y * wide + x + 1) co) (y * wide + (x + 1)) (nats (win l W H wide right down (y * wide + (x + 1))))) := by
            rw [← Nat.add_assoc, win_succ, nats_snoc, ← HME.out, ← HEL2.out, HME.out]; exact hO2
          have HB2 : Hid (Below B1 w w2) := (HBE1.out.trans ((((Below.refl _ w1).alloc (Nat.le_refl _) (.cells #[.int .i64 (el : Int)] 3)).drew).mono hszr)).grown hg2 (by simp; omega) (own_low HOA.out)
          clear hO2 hg2 g1 g3 hce e2 e4 e5 e6 u4 u5 u6 hle HO1 HBE1 HOA HR1 HC1 hszr hm
          go_wp2_with fail
          go_roundw
          case rel => exact ⟨x + 1, by omega, by go_num, HO2.out, HB2.out⟩
          case measure => simp [intOf]; omega
        case neg =>
          obtain rfl : x = wide := by omega
          go_wp2_with fail
          go_roundw
          case rel => exact ⟨y + 1, by omega, by go_num, by rw [Nat.add_mul, Nat.one_mul]; exact HO.out, HBE.out⟩
          case measure => simp [intOf]; omega
    case neg =>
      obtain rfl : y = high := by omega
      obtain ⟨hr1, hc1, hb1⟩ := HKEEP.out wr HBE.out
      have HR1 := Lib.hid hr1
      have HC1 := Lib.hid hc1
      have HB1' := Lib.hid hb1
      obtain ⟨m, hm⟩ : ∃ m, m = wide * y := ⟨_, rfl⟩
      have hown := HO.out
      rw [Nat.mul_comm y wide, ← hm] at hown
      obtain ⟨g, cp, hv⟩ : ∃ g cp, u22 = .slice (some ⟨g, 0, none⟩) m cp := by
        rcases hown.2 with ⟨_, h0⟩ | ⟨g, cap, cur, hv, _⟩
        · have := Nat.mul_pos hw1 hh1
          omega
        · exact ⟨g, cap, hv⟩
      subst hv
      have hzf : zfault ts [(wide : Int), (y : Int)] = 0 := zfault_ok HZ.out (fun k hk => by
        match k, hk with
        | 0, _ => show side (wide : Int); exact ⟨by omega, by omega⟩
        | 1, _ => show side (y : Int); exact ⟨by omega, by omega⟩)
      have hzf2 : zfault ts [(W : Int), (H : Int)] = 0 := zfault_ok HZ.out (fun k hk => by
        match k, hk with
        | 0, _ => show side (W : Int); exact ⟨by omega, by omega⟩
        | 1, _ => show side (H : Int); exact ⟨by omega, by omega⟩)
      have hlw : (win l W H wide right down m).length = m := win_len _ _ _ _ _ _ _
      have hcw : Cells wr (some ⟨g, 0, none⟩) m (fun i => .int .i64 ((casts (win l W H wide right down m)).getD i 0)) := by
        have h2 := hown
        rw [← hlw] at h2
        have := cells_own (l := win l W H wide right down m) (c := cp) (ad := some ⟨g, 0, none⟩) (B := B1) (w := wr) (by rw [hlw]; exact hown)
        rwa [hlw] at this
      have hf1 := fits_ok a n c ts wide y (some ⟨g, 0, none⟩) m cp (casts (win l W H wide right down m)) false wr (HT.out.keep hb1) hzf (by rw [casts_length, hlw]) hm (casts_mem (win_bd hW1 hH1 HLL.out HLB.out)) hcw
      have HF1 := Lib.hid hf1
      have HG1 : Hid (Good wide y false (zt ts (casts (win l W H wide right down m)))) := by rw [zt_casts, hm]; exact win_good hW1 hH1 hw1 hh1 HG.out
      have HF2 : Hid (∀ w2 : World, Below w0.heap.size w0 w2 → Cells w2 (some ⟨bl, ol, none⟩) l.length (fun i => .int .i64 ((casts l).getD i 0)) → Calls Try.prog 11 #[.slice a n c, .int .i64 W, .int .i64 H, .slice (some ⟨bl, ol, none⟩) l.length cc, .bool true] w2 fun e w' => (∃ b, e = .returned (.tuple #[.bool b, .nilIface]) ∧ (b = true ↔ Good W H true (zt ts (casts l)))) ∧ Below w2.heap.size w2 w') :=
        fun w2 h2 hc2 => fits_ok a n c ts W H (some ⟨bl, ol, none⟩) l.length cc (casts l) true w2 (HT.out.keep h2) hzf2 (casts_length l) HLL.out (casts_mem HLB.out) hc2
      have HG2 : Hid (Good W H true (zt ts (casts l))) := by rw [zt_casts]; exact HG.out
      clear hr1 hc1 hb1 hown hzf hzf2 hlw hcw hf1 hm HO HBE HKEEP
      go_wp2_with fail
      refine HF1.out.mono ?_
      rintro e2 w2 ⟨⟨b, rfl, hb⟩, hb2⟩
      obtain rfl := hb.2 HG1.out
      have HR2 := Lib.hid (HR1.out.keep hb2 HR1.out.lt)
      have HC2 := Lib.hid (HC1.out.keep hb2)
      have HB2 := Lib.hid (HB1'.out.trans (hb2.mono HB1'.out.size))
      clear hb hb2 HF1 HR1 HC1 HB1' HG1
      have g1 := HR2.out.cell 1
      have g2 := HR2.out.cell 2
      have g3 := HR2.out.cell 3
      dsimp only [List.getElem?_cons_succ, List.getElem?_cons_zero] at g1 g2 g3
      go_wp2_with fail
      refine (HF2.out _ HB2.out HC2.out).mono ?_
      rintro e3 w3 ⟨⟨b, rfl, hb⟩, hb3⟩
      obtain rfl := hb.2 HG2.out
      have HB3 := Lib.hid (HB2.out.trans (hb3.mono HB2.out.size))
      clear hb hb3 HF2 HR2 HC2 HB2 HG2 g1 g2 g3
      go_wp2_with fail
      exact HB3.out
end Wg
end Go.Proofs.Ythggpjpmjhaidaa
