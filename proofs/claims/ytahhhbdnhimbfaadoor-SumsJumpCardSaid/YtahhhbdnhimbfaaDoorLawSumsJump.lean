/- THE LAW SumsJump: its walk, out of its callees' contracts. -/
import Derived.Test.YtahhhbdnhimbfaaDoorSmU
import Derived.Deep.RegionHeld3
import Derived.Maps.AppendAt
namespace Go.Proofs.YtahhhbdnhimbfaaDoor
set_option linter.unusedSimpArgs false
set_option linter.unusedVariables false
open Go.RowKit
namespace Ln
open Tld Mem Sm

/-- Does the code begin with region n? -/
def heads (n : Nat) : Code → Bool
  | .region i _ _ => i == n
  | .seq a _ => heads n a
  | _ => false
/-- The code from region n on, all that follows it. -/
def frs (n : Nat) : Code → Option Code
  | .seq a b => match heads n a with
    | true => some (.seq a b)
    | false => match frs n a with
      | some c => some c
      | none => frs n b
  | .block _ c => frs n c
  | .scope c => frs n c
  | .loop c => frs n c
  | _ => none

/-- append of one value, as one step of a region that draws: where the new slice lies, too. -/
theorem step_append3 {P : Program} {ops : Array Oper} {o : Oper} {a : Act} {w : World} {K : Act → World → Prop} {Q : Exit → Act → World → Prop} {E : Prop} (hgd : o.guard = none) (x y : Operand) (t : TypeId)
    (ho : o.op = .call { callee := .builtin .append, args := #[x, y], argTypes := #[t, t] })
    (B : Nat) (e : TypeId) (i : TypeInfo) (z : Value) (bytes : Nat) (ht : P.underlying t = some (.slice e)) (hi : P.info? e = some i) (hz : i.zero = some z) (hz1 : z.cells.size = 1) (hsize : i.size = 1) (hby : i.bytes = bytes)
    (v : Value) (n : Nat) (xs : List Value) (hs : a.eval x = v) (hown : w.ownsRow B e 1 v n xs) (ad : Addr) (c : Nat) (u : Value) (hy : a.eval y = .slice (some ad) 1 c) (hu : w.cell? ad = some u) (h1 : u.oneCell' = true)
    (h63 : n + 1 ≤ maxLen) (hbytes : (n + 1) * bytes ≤ 140737488355328) (hB : B ≤ w.heap.size)
    (hK : ∀ ao co w', w'.ownsRow B e 1 (.slice ao (n + 1) co) (n + 1) (xs ++ [u]) → w.grownBy w' v.ownBlock → (Value.ownBlock (.slice ao (n + 1) co) = v.ownBlock ∨ Value.ownBlock (.slice ao (n + 1) co) = some w.heap.size) → K (a.put o.dst (.slice ao (n + 1) co)) w') :
    if Region.wanted o (yielded ops a.tmps) = true then Oper.wp P o a w K Q else E := by
  have hw : Region.wanted o (yielded ops a.tmps) = true := by simp [Region.wanted, hgd]
  rw [if_pos hw]
  obtain ⟨v', w', hr, h2, h3, h4, h5⟩ := run_append_own_at (P := P) w B t o.type e i z 1 bytes ht hi hz hsize hby hz1 (by decide) v n xs hown ad 1 c [u] rfl (fun j q hj => by
    match j, hj with
    | 0, hj =>
      simp at hj; subst hj
      have : ad.add 0 = ad := by simp [Addr.add]
      rw [this]; exact hu
    | j + 1, hj => simp at hj) (fun q hq => by simp at hq; subst hq; exact h1) h63 hbytes hB
  unfold Oper.wp execOp
  simp only [ho, resolve, invoke, builtin, Sem.run_bind, Sem.run_pure, Result.andThen_ok, List.map_toArray, List.map_cons, List.map_nil, hs, hy, hr]
  rcases h2.2 with ⟨_, h0⟩ | ⟨g, cap, cur, hv, _⟩
  · omega
  · subst hv
    exact hK _ _ _ h2 h3 h5
theorem cell_grown {w w' : World} {B b o n : Nat} {e : TypeId} {v : Value} {xs : List Value} (hg : w.grownBy w' v.ownBlock) (ho : w.ownsRow B e 1 v n xs) (hb : b < B) (hl : b < w.heap.size) : w'.cell? ⟨b, o, none⟩ = w.cell? ⟨b, o, none⟩ :=
  World.cell?_of_block (hg.block b hl (fun e => by have := own_low ho b e.symm; omega))
/-- May one go so far with this rule and this word? -/
def JOk (K B S st ra : Int) (tz : List Int) (tu : ByteArray) (wz : List Int) (n : Int) : Prop := wfault K B S st ra tz tu wz = 0 ∧ SumT (wf tz) st.toNat (2 * ra.toNat + 1) ∧ 0 ≤ n ∧ n ≤ 1000000000000000000
theorem jump_any (K B S st ra : Int) (ta : Option Addr) (tn tc : Nat) (tz : List Int) (tu : ByteArray) (wa : Option Addr) (wn wc : Nat) (wz : List Int) (n : Int) (w : World) (hT : Ints.Is w ta tn tz) (hu : tu.size ≤ 9223372036854775807) (hW : Ints.Is w wa wn wz) (hwc : wn ≤ wc) (hnil : wa = none → wn = 0) :
    Calls Tryd.prog 9 #[.agg #[.int .i64 K, .int .i64 B, .int .i64 S, .int .i64 st, .int .i64 ra, .slice ta tn tc, .string tu], .slice wa wn wc, .int .i64 n] w fun e w' => (∃ (ax : Option Addr) (xn cx : Nat) (f : Int), e = .returned (.tuple #[.slice ax xn cx, errV f]) ∧ (f = 0 ↔ JOk K B S st ra tz tu wz n) ∧ (f = 0 → xn = wn ∧ wn ≤ cx ∧ Ints.Is w' ax wn (runL (wf tz) st.toNat ra.toNat wz n.toNat) ∧ (ax = none → wn = 0))) ∧ Below w.heap.size w w' := by
  classical
  by_cases hf : wfault K B S st ra tz tu wz = 0
  · obtain ⟨ho, hwn, hz⟩ := wfault_zero hf
    obtain ⟨s, r, rfl, rfl, h2, h4, hr5, htn, htl, htz⟩ := ho.nat hT.len
    by_cases hs : SumT (wf tz) s (2 * r + 1)
    · by_cases hn : n < 0 ∨ 1000000000000000000 < n
      · refine (jump_bad3 K B S s r ta tn tc tz tu wa wn wc wz n w hT hu hW hf hs hn).mono ?_
        rintro e w' ⟨rfl, hb⟩
        exact ⟨⟨none, 0, 0, 1, by rw [errV_some (by decide)], ⟨fun h => (by cases h), fun h => (by have := h.2.2.1; have := h.2.2.2; omega)⟩, fun h => (by cases h)⟩, hb⟩
      · obtain ⟨m, rfl⟩ := Int.eq_ofNat_of_zero_le (show 0 ≤ n by omega)
        refine (jump_ok K B S s r ta tn tc tz tu wa wn wc wz m w hT hu hW hf hwc hnil hs (by omega)).mono ?_
        rintro e w' ⟨⟨ao, co, rfl, hco, hI, hon⟩, hb⟩
        exact ⟨⟨ao, wn, co, 0, by rw [errV_zero rfl], ⟨fun _ => ⟨hf, hs, by omega, by omega⟩, fun _ => rfl⟩, fun _ => ⟨rfl, hco, hI, hon⟩⟩, hb⟩
    · refine (jump_bad2 K B S s r ta tn tc tz tu wa wn wc wz n w hT hu hW hf hs).mono ?_
      rintro e w' ⟨rfl, hb⟩
      exact ⟨⟨none, 0, 0, 5, by rw [errV_some (by decide)], ⟨fun h => (by cases h), fun h => absurd h.2.1 hs⟩, fun h => (by cases h)⟩, hb⟩
  · refine (jump_bad1 K B S st ra ta tn tc tz tu wa wn wc wz n _ w hT hu hW rfl hf).mono ?_
    rintro e w' ⟨rfl, hb⟩
    exact ⟨⟨none, 0, 0, _, by rw [errV_some hf], ⟨fun h => absurd h hf, fun h => absurd h.1 hf⟩, fun h => absurd h hf⟩, hb⟩
theorem row_grown2' {w w' : World} {B : Nat} {e T : TypeId} {v : Value} {n p : Nat} {xs cs : List Value} (hg : w.grownBy w' v.ownBlock) (h : w.ownsRow B e 1 v n xs) (hR : Row w p T cs) (hp : p < B) : Row w' p T cs :=
  (hg.block p hR.lt (fun x => by have := own_low h p x.symm; omega)).trans hR
theorem wfault_ok2 {K B S st ra : Int} {tz : List Int} {tu : ByteArray} {wz : List Int} (h : Ok K B S st ra tz tu) (hl : wz.length ≤ 1000) (hz : ∀ z ∈ wz, 0 ≤ z ∧ z < st) : wfault K B S st ra tz tu wz = 0 := by
  rw [wfault_yes h, if_neg (by omega), if_neg]
  rw [Bool.not_eq_true, List.any_eq_false]
  intro z hz'
  have := hz z hz'
  simp; omega
theorem ints_eq3 (a b : Option Addr) (n m c d : Nat) (xs ys : List Int) (w : World) (hx : Ints.Is w a n xs) (hy : Ints.Is w b m ys) (e : xs = ys) :
    Calls Tryd.prog 11 #[.slice a n c, .slice b m d] w fun e w' => e = .returned (.bool true) ∧ Below w.heap.size w w' := by
  have h := Ints.ints_any a b n m c d xs ys w hx hy
  rw [decide_eq_true e] at h
  exact h
/-- Two slices that lie apart. -/
def Dis (u v : Value) : Prop := u.ownBlock = none ∨ v.ownBlock = none ∨ u.ownBlock ≠ v.ownBlock
theorem Dis.symm {u v : Value} (h : Dis u v) : Dis v u := by
  rcases h with h | h | h
  · exact .inr (.inl h)
  · exact .inl h
  · exact .inr (.inr fun e => h e.symm)
theorem Dis.kept {u v : Value} (h : Dis u v) : v.ownBlock = none ∨ v.ownBlock ≠ u.ownBlock := by
  rcases h with h | h | h
  · by_cases hv : v.ownBlock = none
    · exact .inl hv
    · exact .inr (by rw [h]; exact hv)
  · exact .inl h
  · exact .inr fun e => h e.symm
theorem Dis.next {u v u' : Value} {S : Nat} (h : Dis u v) (hv : ∀ g, v.ownBlock = some g → g < S) (hat : u'.ownBlock = u.ownBlock ∨ u'.ownBlock = some S) : Dis u' v := by
  rcases hat with e | e
  · unfold Dis; rw [e]; exact h
  · cases hvb : v.ownBlock with
    | none => exact .inr (.inl hvb)
    | some g =>
      refine .inr (.inr ?_)
      rw [e, hvb]
      intro h2
      have := hv g hvb
      cases h2
      omega
/-- Two words, added cell by cell. -/
def addL (st n : Nat) (x y : List Int) : List Int := lst n fun k => (wf x k + wf y k) % st
theorem run_add {t c : Nat → Nat} {st R n : Nat} {x y : List Int} (hs : SumR t st R c) (ht : ∀ k, t k < st) (h0 : 0 < st) (hx : ∀ z ∈ x, 0 ≤ z ∧ z < (st : Int)) (hy : ∀ z ∈ y, 0 ≤ z ∧ z < (st : Int)) (hlx : x.length = n) (hly : y.length = n) (m : Nat) :
    runL t st R (addL st n x y) m = addL st n (runL t st R x m) (runL t st R y m) := by
  have hA : ∀ z ∈ addL st n x y, 0 ≤ z ∧ z < (st : Int) := lst_mem fun k => Nat.mod_lt _ h0
  have hAl : (addL st n x y).length = n := lst_len
  rw [runL_go (fun z hz => (hA z hz).1) m, runL_go (fun z hz => (hx z hz).1) m, runL_go (fun z hz => (hy z hz).1) m, hAl, hlx, hly]
  rcases Nat.eq_zero_or_pos n with rfl | hn
  · rfl
  · show lst n _ = lst n _
    refine lst_congr fun k hk => ?_
    rw [wf_lst hk, wf_lst hk]
    exact go_lin hs hn ht (wf_lt h0 hx) (wf_lt h0 hy) (wf_lt h0 hA) (fun i hi => wf_lst hi) m k hk
theorem runL_add {t : Nat → Nat} {st R : Nat} {wz : List Int} (n : Nat) : ∀ m, runL t st R (runL t st R wz n) m = runL t st R wz (n + m)
  | 0 => rfl
  | m + 1 => by
    show stepL t st R (runL t st R (runL t st R wz n) m) = stepL t st R (runL t st R wz (n + m))
    rw [runL_add n m]
set_option maxHeartbeats 8000000 in
set_option maxRecDepth 1000000 in
theorem jtail (K B S : Int) (s r : Nat) (ta : Option Addr) (tn tc : Nat) (tz : List Int) (tu : ByteArray) (wa oa ax : Option Addr) (wn wc on oc cx n : Nat) (wz oz : List Int) (b5 : Nat) (w0 w : World)
    (HT : Hid (Ints.Is w0 ta tn tz)) (hu : tu.size ≤ 9223372036854775807) (HW : Hid (Ints.Is w0 wa wn wz)) (HO : Hid (Ints.Is w0 oa on oz)) (hoc : on ≤ oc) (honil : oa = none → on = 0) (hb5 : w0.heap.size ≤ b5)
    (HJ : Hid (JOk K B S s r tz tu wz n)) (HX : Hid (Ints.Is w ax wn (runL (wf tz) s r wz n))) (HR : Hid (Row w b5 24 (rulL K B S s r ta tn tc tu))) (HB : Hid (Below w0.heap.size w0 w))
    (c0 c4 c6 c7 c8 c9 c10 c11 c12 c14 c15 c16 c17 c18 c19 c20 c21 c22 c23 c24 c25 c26 c27 c28 c29 c30 c31 c32 c33 c34 c35 c36 c37 c38 c39 c40 c41 c42 c43 c44 c45 c46 c47 c48 c49 c50 c51 c52 c53 c54 c55 c56 c57 c58 c59 c60 c61 c62 c63 c64 c65 c66 c67 c68 c69 c70 c71 c72 c73 c74 c75 c76 c77 c78 c79 c80 c81 c82 c83 c84 c85 c86 c87 c88 c89 c90 c91 c92 c93 c94 c95 c96 c97 c98 c99 c100 c101 c102 c103 c104 c105 c106 c107 c108 c109 c110 c111 c112 c113 c114 c115 c116 c117 c118 c119 c120 c121 c122 c123 c124 c125 c126 c127 c128 c129 c130 c131 c132 c133 c134 c135 c136 c137 c138 c139 c140 c141 c142 c143 c144 c145 c146 c147 c148 c149 c150 c151 c152 c153 c154 c155 c156 c157 c158 c159 c160 c161 c162 c163 c164 c165 c166 c167 c168 c169 c170 c171 c172 c173 c174 c175 c176 c177 c178 c179 c180 c181 c182 : Value) (Q : Exit → Act → World → Prop)
    (hret : ∀ {u14 u23 u24 u25 u26 u27 u28 u29 u116 u117 u118 u119 u120 u121 u122 u123 u124 u125 u126 u127 u128 u129 u130 u131 u132 u133 u134 u135 u136 u137 u138 u139 u140 u141 u142 u143 u144 u145 u146 u147 u148 u149 u150 u151 u152 u153 u154 u155 u156 u157 u158 u159 u160 u161 u162 u163 u164 u165 u166 u167 u168 u169 u170 u171 u172 u173 u174 u175 u176 u177 u178 u179 u180 u181 u182 : Value} {w' : World}, Below w0.heap.size w0 w' → Q .ret ⟨#[c0, .slice wa wn wc, .slice oa on oc, .int .i64 (n : Nat), c4, .pointer (some ⟨b5, 0, none⟩), c6, c7, c8, c9, .bool true, c11, c12, .slice ax wn cx, u14, c15, c16, c17, c18, c19, c20, c21, c22, u23, u24, u25, u26, u27, u28, u29, c30, c31, c32, c33, c34, c35, c36, c37, c38, c39, c40, c41, c42, c43, c44, c45, c46, c47, c48, c49, c50, c51, c52, c53, c54, c55, c56, c57, c58, c59, c60, c61, c62, c63, c64, c65, c66, c67, c68, c69, c70, c71, c72, c73, c74, c75, c76, c77, c78, c79, c80, c81, c82, c83, c84, c85, c86, c87, c88, c89, c90, c91, c92, c93, c94, c95, c96, c97, c98, c99, c100, c101, c102, c103, c104, c105, c106, c107, c108, c109, c110, c111, c112, c113, c114, c115, u116, u117, u118, u119, u120, u121, u122, u123, u124, u125, u126, u127, u128, u129, u130, u131, u132, u133, u134, u135, u136, u137, u138, u139, u140, u141, u142, u143, u144, u145, u146, u147, u148, u149, u150, u151, u152, u153, u154, u155, u156, u157, u158, u159, u160, u161, u162, u163, u164, u165, u166, u167, u168, u169, u170, u171, u172, u173, u174, u175, u176, u177, u178, u179, u180, u181, u182], []⟩ w')
    : Code.wp Tryd.prog ((frs 18 (Tryd.f4.body.getD .skip)).getD .skip) Q ⟨#[c0, .slice wa wn wc, .slice oa on oc, .int .i64 (n : Nat), c4, .pointer (some ⟨b5, 0, none⟩), c6, c7, c8, c9, c10, c11, c12, .slice ax wn cx, c14, c15, c16, c17, c18, c19, c20, c21, c22, c23, c24, c25, c26, c27, c28, c29, c30, c31, c32, c33, c34, c35, c36, c37, c38, c39, c40, c41, c42, c43, c44, c45, c46, c47, c48, c49, c50, c51, c52, c53, c54, c55, c56, c57, c58, c59, c60, c61, c62, c63, c64, c65, c66, c67, c68, c69, c70, c71, c72, c73, c74, c75, c76, c77, c78, c79, c80, c81, c82, c83, c84, c85, c86, c87, c88, c89, c90, c91, c92, c93, c94, c95, c96, c97, c98, c99, c100, c101, c102, c103, c104, c105, c106, c107, c108, c109, c110, c111, c112, c113, c114, c115, c116, c117, c118, c119, c120, c121, c122, c123, c124, c125, c126, c127, c128, c129, c130, c131, c132, c133, c134, c135, c136, c137, c138, c139, c140, c141, c142, c143, c144, c145, c146, c147, c148, c149, c150, c151, c152, c153, c154, c155, c156, c157, c158, c159, c160, c161, c162, c163, c164, c165, c166, c167, c168, c169, c170, c171, c172, c173, c174, c175, c176, c177, c178, c179, c180, c181, c182], []⟩ w := by
  conv => arg 2; whnf
  obtain ⟨hwf, hsum, _, hn18⟩ := HJ.out
  obtain ⟨ho, hwn, hz⟩ := wfault_zero hwf
  obtain ⟨s', r', es, er, h2, h4, hr5, htn, htl, htz⟩ := ho.nat HT.out.len
  obtain rfl : s = s' := by omega
  obtain rfl : r = r' := by omega
  rw [Int.toNat_natCast, Int.toNat_natCast] at hsum
  rw [HW.out.len] at hwn
  have HSR := Lib.hid (sumR_of hsum)
  have HSUM := Lib.hid hsum
  have HOK := Lib.hid ho
  have HZ := Lib.hid hz
  have HTL := Lib.hid (wf_lt (st := s) (by omega) htz)
  clear es er htn htl htz hwf hsum ho hz
  have l5 := row_range HR.out
  go_wp2_with (refine wpList_load_mid rfl 24 _ rfl b5 0 rfl _ _ l5 Tryd.underlying24 rfl infoRule ?_)
  clear l5
  refine (jump_any K B S s r ta tn tc tz tu oa on oc oz n _ (HT.out.keep HB.out) hu (HO.out.keep HB.out) hoc honil).mono ?_
  rintro e1 w1 ⟨⟨ay, yn, cy, f, rfl, hfj, hfo⟩, hb9⟩
  have HX := Lib.hid (HX.out.keep hb9)
  have HR := Lib.hid (HR.out.keep hb9 HR.out.lt)
  have HB := Lib.hid (HB.out.trans (hb9.mono HB.out.size))
  have HFO := Lib.hid hfo
  have HFJ := Lib.hid hfj
  clear hb9 hfo hfj
  by_cases hf : f = 0
  · subst hf
    rw [errV_zero rfl]
    obtain ⟨hyn, _, hY, _⟩ := HFO.out rfl
    subst hyn
    rw [Int.toNat_natCast, Int.toNat_natCast, Int.toNat_natCast] at hY
    have HY := Lib.hid hY
    have HJO := Lib.hid (HFJ.out.1 rfl)
    clear hY HFO HFJ
    by_cases hlen : yn = wn
    · subst hlen
      obtain ⟨i0, hI0, hz0, hz1, hz2⟩ := info_parts infoIntN
      have HI0 := Lib.hid hI0
      have HZ0 := Lib.hid hz0
      have HZ1 := Lib.hid hz1
      have HZ2 := Lib.hid hz2
      clear hI0 hz0 hz1 hz2
      obtain ⟨hwfo, _, _, _⟩ := HJO.out
      obtain ⟨_, _, hzo⟩ := wfault_zero hwfo
      have HZO := Lib.hid hzo
      clear hwfo hzo HJO
      obtain ⟨X, hX⟩ : ∃ X, X = runL (wf tz) s r wz n := ⟨_, rfl⟩
      obtain ⟨Y, hY⟩ : ∃ Y, Y = runL (wf tz) s r oz n := ⟨_, rfl⟩
      have HXM : Hid (∀ z ∈ X, 0 ≤ z ∧ z < (s : Int)) := by rw [hX]; exact runL_mem HTL.out HZ.out n
      have HYM : Hid (∀ z ∈ Y, 0 ≤ z ∧ z < (s : Int)) := by rw [hY]; exact runL_mem HTL.out HZO.out n
      have HAD : Hid (runL (wf tz) s r (addL s yn wz oz) n = addL s yn X Y) := by
        show _ = _
        rw [hX, hY]
        exact run_add HSR.out HTL.out (by omega) HZ.out HZO.out HW.out.len HO.out.len n
      rw [← hX] at HX
      rw [← hY] at HY
      clear hX hY
      have HW1 := Lib.hid (HW.out.keep HB.out)
      have HO1 := Lib.hid (HO.out.keep HB.out)
      obtain ⟨B1, hB1⟩ : ∃ B1, B1 = w1.heap.size := ⟨_, rfl⟩
      have HBE := Lib.hid hB1
      have hb5l : b5 < B1 := by rw [hB1]; exact HR.out.lt
      have hle1 : w0.heap.size ≤ B1 := by omega
      clear hB1
      go_wp2_with fail
      go_loopw [24, 25, 26] (fun u v q wr => ∃ (k : Nat) (ab am : Option Addr) (cb cm : Nat), k ≤ yn ∧ q = .int .i64 k ∧ u = .slice ab k cb ∧ v = .slice am k cm ∧ wr.ownsRow B1 3 1 u k ((lst k (fun j => (wf wz j + wf oz j) % s)).map (Value.int .i64)) ∧ wr.ownsRow B1 3 1 v k ((lst k (fun j => (wf X j + wf Y j) % s)).map (Value.int .i64)) ∧ Dis u v ∧ Row wr b5 24 (rulL K B S s r ta tn tc tu) ∧ Below B1 w1 wr) (fun _ _ q _ => yn - (intOf q).toNat)
      case atStart => exact ⟨0, none, none, 0, 0, Nat.zero_le _, rfl, rfl, rfl, own_nil _ _, own_nil _ _, .inl rfl, HR.out, Below.refl _ _⟩
      case round =>
        clear HR
        obtain ⟨k, ab, am, cb, cm, hk, rfl, rfl, rfl, hu1, hv1, hd, hR, hbel⟩ := hrel
        have HU := Lib.hid hu1
        have HV := Lib.hid hv1
        have HD := Lib.hid hd
        have HR := Lib.hid hR
        have HL := Lib.hid hbel
        clear hu1 hv1 hd hR hbel
        by_cases hlt : k < yn
        · have hst0 : ((s : Int) == 0) = false := by rw [beq_eq_false_iff_ne]; omega
          have hst1 : ¬ s = 0 := by omega
          have hsl : B1 ≤ wr.heap.size := by have := HL.out.size; have := HBE.out; omega
          go_wp2_with fail
          obtain ⟨ba, oa1, ea, hla, _⟩ := HW1.out.cells k hlt
          obtain ⟨bb, ob1, eb, hlb, _⟩ := HO1.out.cells k hlt
          subst ea
          subst eb
          obtain ⟨b', o', e', _, c1⟩ := (HW1.out.below HL.out (by have := HBE.out; omega)).cells k hlt
          cases e'
          obtain ⟨b', o', e', _, c2⟩ := (HO1.out.below HL.out (by have := HBE.out; omega)).cells k hlt
          cases e'
          dsimp only at c1 c2
          rw [wf_at (zs := wz) (fun z hz => (HZ.out z hz).1)] at c1
          rw [wf_at (zs := oz) (fun z hz => (HZO.out z hz).1)] at c2
          have hp1 := wf_lt (st := s) (by omega) HZ.out k
          have hp2 := wf_lt (st := s) (by omega) HZO.out k
          have HNX : Hid ((lst (k + 1) (fun j => (wf wz j + wf oz j) % s)).map (Value.int .i64) = (lst k (fun j => (wf wz j + wf oz j) % s)).map (Value.int .i64) ++ [.int .i64 (((wf wz k + wf oz k) % s : Nat) : Int)]) := by
            show (lst (k + 1) _).map (Value.int .i64) = _
            rw [lst_succ, map_snoc]
          have hmod : (((wf wz k : Nat) : Int) + ((wf oz k : Nat) : Int)).tmod (s : Int) = (((wf wz k + wf oz k) % s : Nat) : Int) := by
            rw [show (((wf wz k : Nat) : Int) + ((wf oz k : Nat) : Int)) = ((wf wz k + wf oz k : Nat) : Int) from by push_cast; rfl]
            exact Int.ofNat_tmod _ _
          have hms : (wf wz k + wf oz k) % s < s := Nat.mod_lt _ (by omega)
          have c5 := HR.out.cell 3
          unfold rulL at c5
          dsimp only [List.getElem?_cons_succ, List.getElem?_cons_zero] at c5
          generalize (wf wz k + wf oz k) % s = mv at *
          generalize wf wz k = p1 at *
          generalize wf oz k = p2 at *
          have hbaB : ba < B1 := by have := HBE.out; omega
          have hbbB : bb < B1 := by have := HBE.out; omega
          have hszr : B1 ≤ wr.heap.size := by have := HL.out.size; have := HBE.out; omega
          have hbar : ba < wr.heap.size := by omega
          have hbbr : bb < wr.heap.size := by omega
          have hb5r : b5 < wr.heap.size := by omega
          have HAL : Hid (Below wr.heap.size wr (wr.alloc (.cells #[.int .i64 (mv : Int)] 3)).drew) := ((Below.refl _ _).alloc (Nat.le_refl _) (.cells #[.int .i64 (mv : Int)] 3)).drew
          have u1 : IntKind.i64.wrap ((p1 : Int) + (p2 : Int)) = (p1 : Int) + (p2 : Int) := by rw [IntKind.wrap_i64]; omega
          have u2 : IntKind.i64.wrap (mv : Int) = (mv : Int) := by rw [IntKind.wrap_i64]; omega
          go_region_held3 (fun w' => w'.cell? ⟨ba, oa1 + k, none⟩ = some (.int .i64 (p1 : Int)) ∧ w'.cell? ⟨bb, ob1 + k, none⟩ = some (.int .i64 (p2 : Int)) ∧ w'.cell? ⟨b5, 3, none⟩ = some (.int .i64 (s : Int)))
            (first
              | go_keep
              | (refine ⟨?_, ?_, ?_⟩
                 · exact (cell_grown hg2 HOA.out hbaB (by simp; omega)).trans ((HAL.out.cell (p := ⟨ba, oa1 + k, none⟩) hbar).trans c1)
                 · exact (cell_grown hg2 HOA.out hbbB (by simp; omega)).trans ((HAL.out.cell (p := ⟨bb, ob1 + k, none⟩) hbbr).trans c2)
                 · exact (cell_grown hg2 HOA.out hb5l (by simp; omega)).trans ((HAL.out.cell (p := ⟨b5, 3, none⟩) hb5r).trans c5)))
            ((have HOA := Lib.hid (own_keep HU.out HAL.out); refine step_append3 (by rfl) _ _ 22 (by rfl) B1 3 i0 (.int .i64 0) 8 Tryd.underlying22 HI0.out HZ0.out rfl HZ1.out HZ2.out _ _ _ (by rfl) HOA.out ⟨wr.heap.size, 0, none⟩ 1 (.int .i64 (mv : Int)) (by rfl) ((row_alloc wr 3 [.int .i64 (mv : Int)]).drew.cell 0) rfl (by unfold maxLen; omega) (by omega) (by simp; omega) ?_; intro ao2 co2 w2 hO2 hg2 hat2))
          rw [← HNX.out] at hO2
          have HU2 := Lib.hid hO2
          have HV2 := Lib.hid ((own_keep HV.out HAL.out).kept hg2 HD.out.kept)
          have HD2 := Lib.hid (HD.out.next (fun g hg => by have := (HV.out.lt g hg).2; have h2 := HAL.out.size; omega) hat2)
          have HR2 := Lib.hid (row_grown2' hg2 HOA.out (HR.out.keep HAL.out HR.out.lt) hb5l)
          have HL2 := Lib.hid ((HL.out.trans (HAL.out.mono hszr)).grown hg2 (by have h2 := HAL.out.size; omega) (own_low HOA.out))
          clear hO2 hg2 hat2 HOA HAL c1 c2 c5 hmod hp1 hp2 hms u1 u2 hla hlb hbaB hbbB hbar hbbr hb5r hszr HNX
          clear HU HV HD HR HL
          have HR := Lib.hid HR2.out
          have HL := Lib.hid HL2.out
          have HD := Lib.hid HD2.out.symm
          clear HR2 HL2 HD2
          go_wp2_with fail
          obtain ⟨ba, oa1, ea, hla, _⟩ := HX.out.cells k hlt
          obtain ⟨bb, ob1, eb, hlb, _⟩ := HY.out.cells k hlt
          subst ea
          subst eb
          obtain ⟨b', o', e', _, c1⟩ := (HX.out.below HL.out (by have := HBE.out; omega)).cells k hlt
          cases e'
          obtain ⟨b', o', e', _, c2⟩ := (HY.out.below HL.out (by have := HBE.out; omega)).cells k hlt
          cases e'
          dsimp only at c1 c2
          rw [wf_at (zs := X) (fun z hz => (HXM.out z hz).1)] at c1
          rw [wf_at (zs := Y) (fun z hz => (HYM.out z hz).1)] at c2
          have hp1 := wf_lt (st := s) (by omega) HXM.out k
          have hp2 := wf_lt (st := s) (by omega) HYM.out k
          have HNX : Hid ((lst (k + 1) (fun j => (wf X j + wf Y j) % s)).map (Value.int .i64) = (lst k (fun j => (wf X j + wf Y j) % s)).map (Value.int .i64) ++ [.int .i64 (((wf X k + wf Y k) % s : Nat) : Int)]) := by
            show (lst (k + 1) _).map (Value.int .i64) = _
            rw [lst_succ, map_snoc]
          have hmod : (((wf X k : Nat) : Int) + ((wf Y k : Nat) : Int)).tmod (s : Int) = (((wf X k + wf Y k) % s : Nat) : Int) := by
            rw [show (((wf X k : Nat) : Int) + ((wf Y k : Nat) : Int)) = ((wf X k + wf Y k : Nat) : Int) from by push_cast; rfl]
            exact Int.ofNat_tmod _ _
          have hms : (wf X k + wf Y k) % s < s := Nat.mod_lt _ (by omega)
          have c5 := HR.out.cell 3
          unfold rulL at c5
          dsimp only [List.getElem?_cons_succ, List.getElem?_cons_zero] at c5
          generalize (wf X k + wf Y k) % s = mv at *
          generalize wf X k = p1 at *
          generalize wf Y k = p2 at *
          have hbaB : ba < B1 := by have := HBE.out; omega
          have hbbB : bb < B1 := by have := HBE.out; omega
          have hszr : B1 ≤ w2.heap.size := by have := HL.out.size; have := HBE.out; omega
          have hbar : ba < w2.heap.size := by omega
          have hbbr : bb < w2.heap.size := by omega
          have hb5r : b5 < w2.heap.size := by omega
          have HAL : Hid (Below w2.heap.size w2 (w2.alloc (.cells #[.int .i64 (mv : Int)] 3)).drew) := ((Below.refl _ _).alloc (Nat.le_refl _) (.cells #[.int .i64 (mv : Int)] 3)).drew
          have u1 : IntKind.i64.wrap ((p1 : Int) + (p2 : Int)) = (p1 : Int) + (p2 : Int) := by rw [IntKind.wrap_i64]; omega
          have u2 : IntKind.i64.wrap (mv : Int) = (mv : Int) := by rw [IntKind.wrap_i64]; omega
          go_region_held3 (fun w' => w'.cell? ⟨ba, oa1 + k, none⟩ = some (.int .i64 (p1 : Int)) ∧ w'.cell? ⟨bb, ob1 + k, none⟩ = some (.int .i64 (p2 : Int)) ∧ w'.cell? ⟨b5, 3, none⟩ = some (.int .i64 (s : Int)))
            (first
              | go_keep
              | (refine ⟨?_, ?_, ?_⟩
                 · exact (cell_grown hg2 HOA.out hbaB (by simp; omega)).trans ((HAL.out.cell (p := ⟨ba, oa1 + k, none⟩) hbar).trans c1)
                 · exact (cell_grown hg2 HOA.out hbbB (by simp; omega)).trans ((HAL.out.cell (p := ⟨bb, ob1 + k, none⟩) hbbr).trans c2)
                 · exact (cell_grown hg2 HOA.out hb5l (by simp; omega)).trans ((HAL.out.cell (p := ⟨b5, 3, none⟩) hb5r).trans c5)))
            ((have HOA := Lib.hid (own_keep HV2.out HAL.out); refine step_append3 (by rfl) _ _ 22 (by rfl) B1 3 i0 (.int .i64 0) 8 Tryd.underlying22 HI0.out HZ0.out rfl HZ1.out HZ2.out _ _ _ (by rfl) HOA.out ⟨w2.heap.size, 0, none⟩ 1 (.int .i64 (mv : Int)) (by rfl) ((row_alloc w2 3 [.int .i64 (mv : Int)]).drew.cell 0) rfl (by unfold maxLen; omega) (by omega) (by simp; omega) ?_; intro ao2 co2 w3 hO2 hg2 hat2))
          rw [← HNX.out] at hO2
          have HV3 := Lib.hid hO2
          have HU3 := Lib.hid ((own_keep HU2.out HAL.out).kept hg2 HD.out.kept)
          have HD2 := Lib.hid (HD.out.next (fun g hg => by have := (HU2.out.lt g hg).2; have h2 := HAL.out.size; omega) hat2)
          have HR2 := Lib.hid (row_grown2' hg2 HOA.out (HR.out.keep HAL.out HR.out.lt) hb5l)
          have HL2 := Lib.hid ((HL.out.trans (HAL.out.mono hszr)).grown hg2 (by have h2 := HAL.out.size; omega) (own_low HOA.out))
          clear hO2 hg2 hat2 HOA HAL c1 c2 c5 hmod hp1 hp2 hms u1 u2 hla hlb hbaB hbbB hbar hbbr hb5r hszr HNX
          clear HV2 HU2 HD HR HL
          have HD := Lib.hid HD2.out.symm
          clear HD2
          go_wp2_with fail
          go_roundw
          case rel => exact ⟨k + 1, _, _, _, _, by omega, by go_num, rfl, rfl, HU3.out, HV3.out, HD.out, HR2.out, HL2.out⟩
          case measure => simp [intOf]; omega
        · have ek : k = yn := by omega
          subst ek
          have HBT : Hid (addL s k wz oz = lst k (fun j => (wf wz j + wf oz j) % s)) := rfl
          have HMD : Hid (addL s k X Y = lst k (fun j => (wf X j + wf Y j) % s)) := rfl
          obtain ⟨_, _, eab, hcb⟩ := own_slice2 HU.out
          cases eab
          have hIb := own_is HU.out lst_len (by unfold maxLen; omega)
          have hIm := own_is HV.out lst_len (by unfold maxLen; omega)
          rw [← HBT.out] at hIb
          rw [← HMD.out] at hIm
          have HIB := Lib.hid hIb
          have HIM := Lib.hid hIm.1
          have HJB : Hid (JOk K B S s r tz tu (addL s k wz oz) n) := ⟨wfault_ok2 HOK.out (by show (lst k _).length ≤ 1000; rw [lst_len]; omega) (lst_mem fun j => Nat.mod_lt _ (by omega)), by rw [Int.toNat_natCast, Int.toNat_natCast]; exact HSUM.out, by omega, by omega⟩
          have HB := Lib.hid (HB.out.trans (HL.out.mono hle1))
          clear hIb hIm HU HV HBT HMD
          have l5 := row_range HR.out
          go_wp2_with (refine wpList_load_mid rfl 24 _ rfl b5 0 rfl _ _ l5 Tryd.underlying24 rfl infoRule ?_)
          clear l5
          refine (jump_any K B S s r ta tn tc tz tu ab k cb (addL s k wz oz) n _ (HT.out.keep HB.out) hu HIB.out.1 hcb HIB.out.2).mono ?_
          rintro e1 w4 ⟨⟨av, vn, cv, f, rfl, hfj, hfo⟩, hb9⟩
          obtain rfl : f = 0 := hfj.2 HJB.out
          rw [errV_zero rfl]
          obtain ⟨hvn, _, hVI, _⟩ := hfo rfl
          subst hvn
          rw [Int.toNat_natCast, Int.toNat_natCast, Int.toNat_natCast, HAD.out] at hVI
          have HVI := Lib.hid hVI
          have HIM := Lib.hid (HIM.out.keep hb9)
          have HB := Lib.hid (HB.out.trans (hb9.mono HB.out.size))
          clear hfj hfo hVI hb9
          go_wp2_with fail
          refine (ints_eq3 av am _ _ cv cm _ _ _ HVI.out HIM.out rfl).mono ?_
          rintro e2 w5 ⟨rfl, hb9⟩
          have HB := Lib.hid (HB.out.trans (hb9.mono HB.out.size))
          clear hb9
          go_wp2_with fail
          exact HB.out
    · have bne : ((yn : Int) != (wn : Int)) = true := by rw [bne_iff_ne]; omega
      clear hlen
      go_wp2_with fail
      exact HB.out
  · rw [errV_some hf]
    go_wp2_with fail
    exact HB.out
theorem tu0 : (⟨#[]⟩ : ByteArray).size ≤ 9223372036854775807 := by decide
theorem facti_ok : wfault 2 0 0 2 0 [0, 1] ⟨#[]⟩ [1, 0] = 0 := wfault_ok2 ⟨rfl, rfl, rfl, by decide, by decide, by decide, rfl, by decide, fun z hz => by simp at hz; omega, rfl⟩ (by decide) (fun z hz => by simp at hz; omega)
theorem facti_sum : SumT (wf [0, 1]) 2 (2 * 0 + 1) := fun N hN => by
  have : N = 0 ∨ N = 1 := by have : (2 : Nat) ^ (2 * 0 + 1) = 2 := rfl; omega
  rcases this with rfl | rfl <;> decide
theorem facti_run : runL (wf [0, 1]) 2 0 [1, 0] 7 = [1, 0] := by decide
theorem facti_any (w2 : World) (p q : Nat) (h1 : Ints.Is w2 (some ⟨p, 0, none⟩) 2 [0, 1]) (h2 : Ints.Is w2 (some ⟨q, 0, none⟩) 2 [1, 0]) :
    Calls Tryd.prog 9 #[.agg #[.int .i64 2, .int .i64 0, .int .i64 0, .int .i64 2, .int .i64 0, .slice (some ⟨p, 0, none⟩) 2 2, .string ⟨#[]⟩], .slice (some ⟨q, 0, none⟩) 2 2, .int .i64 7] w2 fun e w' => (∃ bo oo co, e = .returned (.tuple #[.slice (some ⟨bo, oo, none⟩) 2 co, .nilIface]) ∧ w'.cell? ⟨bo, oo, none⟩ = some (.int .i64 1) ∧ w'.cell? ⟨bo, oo + 1, none⟩ = some (.int .i64 0)) ∧ Below w2.heap.size w2 w' := by
  refine (jump_ok 2 0 0 2 0 (some ⟨p, 0, none⟩) 2 2 [0, 1] ⟨#[]⟩ (some ⟨q, 0, none⟩) 2 2 [1, 0] 7 w2 h1 tu0 h2 facti_ok (by decide) (fun h => by cases h) facti_sum (by decide)).mono ?_
  rintro e w' ⟨⟨ao, co, rfl, hco, hI, hn⟩, hb⟩
  refine ⟨?_, hb⟩
  rw [facti_run] at hI
  obtain ⟨b, o, rfl, hb, hc⟩ := hI.cells 0 (by decide)
  obtain ⟨b', o', e', hb', hc'⟩ := hI.cells 1 (by decide)
  cases e'
  exact ⟨b, o, co, rfl, hc, hc'⟩
set_option maxHeartbeats 8000000 in
set_option maxRecDepth 1000000 in
theorem sumsJump_any (K B S st ra : Int) (ta : Option Addr) (tn tc : Nat) (tz : List Int) (tu : ByteArray) (wa : Option Addr) (wn wc : Nat) (wz : List Int) (oa : Option Addr) (on oc : Nat) (oz : List Int) (n m : Int) (w : World) (hT : Ints.Is w ta tn tz) (hu : tu.size ≤ 9223372036854775807) (hW : Ints.Is w wa wn wz) (hwc : wn ≤ wc) (hnil : wa = none → wn = 0) (hO : Ints.Is w oa on oz) (hoc : on ≤ oc) (honil : oa = none → on = 0) :
    Calls Tryd.prog 4 #[.agg #[.int .i64 K, .int .i64 B, .int .i64 S, .int .i64 st, .int .i64 ra, .slice ta tn tc, .string tu], .slice wa wn wc, .slice oa on oc, .int .i64 n, .int .i64 m] w fun e w' => e = .returned (.bool true) ∧ Below w.heap.size w w' := by
  have HT := Lib.hid hT
  have HW := Lib.hid hW
  have HO := Lib.hid hO
  clear hT hW hO
  go_enter Tryd.func4, Tryd.ntmps4
  go_upto_region 1 with fail
  obtain ⟨hR, hB⟩ := row_rule w K B S st ra ta tn tc tu
  have HR : Hid (Row (w.alloc (.cells #[.int .i64 K, .int .i64 B, .int .i64 S, .int .i64 st, .int .i64 ra, .slice ta tn tc, .string tu] 24)) w.heap.size 24 (rulL K B S st ra ta tn tc tu)) := hR
  have HB : Hid (Below w.heap.size w (w.alloc (.cells #[.int .i64 K, .int .i64 B, .int .i64 S, .int .i64 st, .int .i64 ra, .slice ta tn tc, .string tu] 24))) := hB
  clear hR hB
  generalize w.alloc (.cells #[.int .i64 K, .int .i64 B, .int .i64 S, .int .i64 st, .int .i64 ra, .slice ta tn tc, .string tu] 24) = w1 at *
  obtain ⟨b5, hb5⟩ : ∃ b5, b5 = w.heap.size := ⟨_, rfl⟩
  rw [← hb5] at HR ⊢
  have hle5 : w.heap.size ≤ b5 := by omega
  clear hb5
  go_wp2_with fail
  obtain ⟨hRa, hRb, hb2⟩ := two_new w1 3 3 [.int .i64 0, .int .i64 1] [.int .i64 1, .int .i64 0]
  have HRa : Hid (Row ((w1.alloc (.cells #[.int .i64 0, .int .i64 1] 3)).alloc (.cells #[.int .i64 1, .int .i64 0] 3)) w1.heap.size 3 [.int .i64 0, .int .i64 1]) := hRa
  have HRb : Hid (Row ((w1.alloc (.cells #[.int .i64 0, .int .i64 1] 3)).alloc (.cells #[.int .i64 1, .int .i64 0] 3)) (w1.heap.size + 1) 3 [.int .i64 1, .int .i64 0]) := hRb
  have hb2 : Below w1.heap.size w1 ((w1.alloc (.cells #[.int .i64 0, .int .i64 1] 3)).alloc (.cells #[.int .i64 1, .int .i64 0] 3)) := hb2
  have HR := Lib.hid (HR.out.keep hb2 HR.out.lt)
  have HB := Lib.hid (HB.out.trans (hb2.mono HB.out.size))
  clear hRa hRb hb2
  generalize (w1.alloc (.cells #[.int .i64 0, .int .i64 1] 3)).alloc (.cells #[.int .i64 1, .int .i64 0] 3) = w2 at *
  refine (facti_any w2 _ _ (row_isN (zs := [0, 1]) HRa.out rfl (by decide)) (row_isN (zs := [1, 0]) HRb.out rfl (by decide))).mono ?_
  rintro e0 w3 ⟨⟨bo, oo, co, rfl, hc0, hc1⟩, hb9⟩
  have HR := Lib.hid (HR.out.keep hb9 HR.out.lt)
  have HB := Lib.hid (HB.out.trans (hb9.mono HB.out.size))
  clear HRa HRb hb9
  have l5 := row_range HR.out
  go_wp2_with (refine wpList_load_mid rfl 24 _ rfl b5 0 rfl _ _ l5 Tryd.underlying24 rfl infoRule ?_)
  clear l5
  clear hc0 hc1
  refine (jump_any K B S st ra ta tn tc tz tu wa wn wc wz n _ (HT.out.keep HB.out) hu (HW.out.keep HB.out) hwc hnil).mono ?_
  rintro e1 w4 ⟨⟨ax, xn, cx, f, rfl, hfj, hfo⟩, hb9⟩
  have HR := Lib.hid (HR.out.keep hb9 HR.out.lt)
  have HB := Lib.hid (HB.out.trans (hb9.mono HB.out.size))
  have HFJ := Lib.hid hfj
  have HFO := Lib.hid hfo
  clear hb9 hfj hfo
  by_cases hf : f = 0
  · subst hf
    rw [errV_zero rfl]
    have HJ := Lib.hid (HFJ.out.1 rfl)
    obtain ⟨hxn, hcx, hX, hxnil⟩ := HFO.out rfl
    subst hxn
    obtain ⟨hwf, hsum, hn0, hn18⟩ := HJ.out
    obtain ⟨ho, hwn, hz⟩ := wfault_zero hwf
    obtain ⟨s, r, rfl, rfl, h2, h4, hr5, htn, htl, htz⟩ := ho.nat HT.out.len
    obtain ⟨n, rfl⟩ := Int.eq_ofNat_of_zero_le hn0
    have HSUM := Lib.hid hsum
    have HOK := Lib.hid ho
    have HZ := Lib.hid hz
    have HWF := Lib.hid hwf
    have HTL := Lib.hid (wf_lt (st := s) (by omega) htz)
    rw [HW.out.len] at hwn
    rw [Int.toNat_natCast, Int.toNat_natCast, Int.toNat_natCast] at hX
    have HX := Lib.hid hX
    have HXN := Lib.hid hxnil
    clear HFJ HFO hX hwf hsum ho hz htz htn hxnil
    have HXZ : Hid (∀ z ∈ runL (wf tz) s r wz n, 0 ≤ z ∧ z < (s : Int)) := runL_mem HTL.out HZ.out n
    have HXL : Hid ((runL (wf tz) s r wz n).length = xn) := (runL_len n).trans HW.out.len
    by_cases h300 : (n : Int) ≤ 300
    · have d300 : decide ((n : Int) ≤ 300) = true := decide_eq_true h300
      have l5 := row_range HR.out
      go_wp2_with (refine wpList_load_mid rfl 24 _ rfl b5 0 rfl _ _ l5 Tryd.underlying24 rfl infoRule ?_)
      clear l5
      refine (runL_ok K B S s r ta tn tc tz tu wa xn wc wz n _ (HT.out.keep HB.out) hu (HW.out.keep HB.out) hwc hnil HWF.out (by omega)).mono ?_
      rintro e1 w5 ⟨⟨aq, cq, rfl, hQ⟩, hb9⟩
      have HQ := Lib.hid hQ
      clear hQ
      have HX := Lib.hid (HX.out.keep hb9)
      have HR := Lib.hid (HR.out.keep hb9 HR.out.lt)
      have HB := Lib.hid (HB.out.trans (hb9.mono HB.out.size))
      clear hb9
      go_wp2_with fail
      refine (ints_eq3 ax aq _ _ cx cq _ _ _ HX.out HQ.out rfl).mono ?_
      rintro e2 w6 ⟨rfl, hb9⟩
      clear HQ
      have HX := Lib.hid (HX.out.keep hb9)
      have HR := Lib.hid (HR.out.keep hb9 HR.out.lt)
      have HB := Lib.hid (HB.out.trans (hb9.mono HB.out.size))
      clear hb9
      have l5 := row_range HR.out
      go_wp2_with (refine wpList_load_mid rfl 24 _ rfl b5 0 rfl _ _ l5 Tryd.underlying24 rfl infoRule ?_)
      clear l5
      refine (jump_any K B S s r ta tn tc tz tu ax xn cx (runL (wf tz) s r wz n) m _ (HT.out.keep HB.out) hu HX.out hcx HXN.out).mono ?_
      rintro e1 w7 ⟨⟨ay, yn, cy, g, rfl, hgj, hgo⟩, hb9⟩
      have HGJ := Lib.hid hgj
      have HGO := Lib.hid hgo
      clear hgj hgo
      have HX := Lib.hid (HX.out.keep hb9)
      have HR := Lib.hid (HR.out.keep hb9 HR.out.lt)
      have HB := Lib.hid (HB.out.trans (hb9.mono HB.out.size))
      clear hb9
      by_cases hg : g = 0
      · subst hg
        rw [errV_zero rfl]
        obtain ⟨hyn, _, hY, _⟩ := HGO.out rfl
        subst hyn
        obtain ⟨_, _, hm0, hm18⟩ := HGJ.out.1 rfl
        obtain ⟨m, rfl⟩ := Int.eq_ofNat_of_zero_le hm0
        rw [Int.toNat_natCast, Int.toNat_natCast, Int.toNat_natCast, runL_add] at hY
        have HY := Lib.hid hY
        clear HGO HGJ hY
        by_cases hnm : (n : Int) ≤ 1000000000000000000 - (m : Int)
        · have dnm : decide ((n : Int) ≤ 1000000000000000000 - (m : Int)) = true := decide_eq_true hnm
          have HS2 : Hid ((n : Int) + (m : Int) = ((n + m : Nat) : Int)) := by show _ = _; omega
          have l5 := row_range HR.out
          go_wp2_with (refine wpList_load_mid rfl 24 _ rfl b5 0 rfl _ _ l5 Tryd.underlying24 rfl infoRule ?_)
          clear l5
          refine (jump_any K B S s r ta tn tc tz tu wa yn wc wz ((n : Int) + (m : Int)) _ (HT.out.keep HB.out) hu (HW.out.keep HB.out) hwc hnil).mono ?_
          rintro e1 w8 ⟨⟨av, vn, cv, h, rfl, hhj, hho⟩, hb9⟩
          obtain rfl : h = 0 := hhj.2 ⟨HWF.out, HSUM.out, by omega, by omega⟩
          rw [errV_zero rfl]
          obtain ⟨hvn, _, hV, _⟩ := hho rfl
          subst hvn
          rw [HS2.out, Int.toNat_natCast, Int.toNat_natCast, Int.toNat_natCast] at hV
          have HV := Lib.hid hV
          have HY := Lib.hid (HY.out.keep hb9)
          clear hhj hho hV
          have HX := Lib.hid (HX.out.keep hb9)
          have HR := Lib.hid (HR.out.keep hb9 HR.out.lt)
          have HB := Lib.hid (HB.out.trans (hb9.mono HB.out.size))
          clear hb9
          go_wp2_with fail
          refine (ints_eq3 ay av _ _ cy cv _ _ _ HY.out HV.out rfl).mono ?_
          rintro e2 w9 ⟨rfl, hb9⟩
          have HX := Lib.hid (HX.out.keep hb9)
          have HR := Lib.hid (HR.out.keep hb9 HR.out.lt)
          have HB := Lib.hid (HB.out.trans (hb9.mono HB.out.size))
          clear hb9
          clear HY HV
          go_upto_if 115 with fail
          go_step
          go_step
          go_step
          apply_assumption
          refine jtail K B S s r ta tn tc tz tu wa oa ax vn wc on oc cx n wz oz b5 w _ HT hu HW HO hoc honil hle5 HJ HX HR HB _ _ _ _ _ _ _ _ _ _ _ _ _ _ _ _ _ _ _ _ _ _ _ _ _ _ _ _ _ _ _ _ _ _ _ _ _ _ _ _ _ _ _ _ _ _ _ _ _ _ _ _ _ _ _ _ _ _ _ _ _ _ _ _ _ _ _ _ _ _ _ _ _ _ _ _ _ _ _ _ _ _ _ _ _ _ _ _ _ _ _ _ _ _ _ _ _ _ _ _ _ _ _ _ _ _ _ _ _ _ _ _ _ _ _ _ _ _ _ _ _ _ _ _ _ _ _ _ _ _ _ _ _ _ _ _ _ _ _ _ _ _ _ _ _ _ _ _ _ _ _ _ _ _ _ _ _ _ _ _ _ _ _ _ _ _ _ _ _ _ _ _ _ _ _ _ _ _ _ ?_
          intro u14 u23 u24 u25 u26 u27 u28 u29 u116 u117 u118 u119 u120 u121 u122 u123 u124 u125 u126 u127 u128 u129 u130 u131 u132 u133 u134 u135 u136 u137 u138 u139 u140 u141 u142 u143 u144 u145 u146 u147 u148 u149 u150 u151 u152 u153 u154 u155 u156 u157 u158 u159 u160 u161 u162 u163 u164 u165 u166 u167 u168 u169 u170 u171 u172 u173 u174 u175 u176 u177 u178 u179 u180 u181 u182 w30 hb30
          go_ret
          exact ⟨rfl, hb30⟩
        · have dnm : decide ((n : Int) ≤ 1000000000000000000 - (m : Int)) = false := decide_eq_false hnm
          clear HY
          go_upto_if 97 with fail
          go_step
          go_step
          go_step
          rename_i hKK
          refine hKK _ _ ?_
          clear hKK
          refine jtail K B S s r ta tn tc tz tu wa oa ax yn wc on oc cx n wz oz b5 w _ HT hu HW HO hoc honil hle5 HJ HX HR HB _ _ _ _ _ _ _ _ _ _ _ _ _ _ _ _ _ _ _ _ _ _ _ _ _ _ _ _ _ _ _ _ _ _ _ _ _ _ _ _ _ _ _ _ _ _ _ _ _ _ _ _ _ _ _ _ _ _ _ _ _ _ _ _ _ _ _ _ _ _ _ _ _ _ _ _ _ _ _ _ _ _ _ _ _ _ _ _ _ _ _ _ _ _ _ _ _ _ _ _ _ _ _ _ _ _ _ _ _ _ _ _ _ _ _ _ _ _ _ _ _ _ _ _ _ _ _ _ _ _ _ _ _ _ _ _ _ _ _ _ _ _ _ _ _ _ _ _ _ _ _ _ _ _ _ _ _ _ _ _ _ _ _ _ _ _ _ _ _ _ _ _ _ _ _ _ _ _ _ ?_
          intro u14 u23 u24 u25 u26 u27 u28 u29 u116 u117 u118 u119 u120 u121 u122 u123 u124 u125 u126 u127 u128 u129 u130 u131 u132 u133 u134 u135 u136 u137 u138 u139 u140 u141 u142 u143 u144 u145 u146 u147 u148 u149 u150 u151 u152 u153 u154 u155 u156 u157 u158 u159 u160 u161 u162 u163 u164 u165 u166 u167 u168 u169 u170 u171 u172 u173 u174 u175 u176 u177 u178 u179 u180 u181 u182 w30 hb30
          go_ret
          exact ⟨rfl, hb30⟩
      · rw [errV_some hg]
        clear HGJ HGO
        go_upto_if 97 with fail
        go_step
        go_step
        go_step
        rename_i hKK
        refine hKK _ _ ?_
        clear hKK
        refine jtail K B S s r ta tn tc tz tu wa oa ax xn wc on oc cx n wz oz b5 w _ HT hu HW HO hoc honil hle5 HJ HX HR HB _ _ _ _ _ _ _ _ _ _ _ _ _ _ _ _ _ _ _ _ _ _ _ _ _ _ _ _ _ _ _ _ _ _ _ _ _ _ _ _ _ _ _ _ _ _ _ _ _ _ _ _ _ _ _ _ _ _ _ _ _ _ _ _ _ _ _ _ _ _ _ _ _ _ _ _ _ _ _ _ _ _ _ _ _ _ _ _ _ _ _ _ _ _ _ _ _ _ _ _ _ _ _ _ _ _ _ _ _ _ _ _ _ _ _ _ _ _ _ _ _ _ _ _ _ _ _ _ _ _ _ _ _ _ _ _ _ _ _ _ _ _ _ _ _ _ _ _ _ _ _ _ _ _ _ _ _ _ _ _ _ _ _ _ _ _ _ _ _ _ _ _ _ _ _ _ _ _ _ ?_
        intro u14 u23 u24 u25 u26 u27 u28 u29 u116 u117 u118 u119 u120 u121 u122 u123 u124 u125 u126 u127 u128 u129 u130 u131 u132 u133 u134 u135 u136 u137 u138 u139 u140 u141 u142 u143 u144 u145 u146 u147 u148 u149 u150 u151 u152 u153 u154 u155 u156 u157 u158 u159 u160 u161 u162 u163 u164 u165 u166 u167 u168 u169 u170 u171 u172 u173 u174 u175 u176 u177 u178 u179 u180 u181 u182 w30 hb30
        go_ret
        exact ⟨rfl, hb30⟩
    · have d300 : decide ((n : Int) ≤ 300) = false := decide_eq_false h300
      have l5 := row_range HR.out
      go_wp2_with (refine wpList_load_mid rfl 24 _ rfl b5 0 rfl _ _ l5 Tryd.underlying24 rfl infoRule ?_)
      clear l5
      refine (jump_any K B S s r ta tn tc tz tu ax xn cx (runL (wf tz) s r wz n) m _ (HT.out.keep HB.out) hu HX.out hcx HXN.out).mono ?_
      rintro e1 w7 ⟨⟨ay, yn, cy, g, rfl, hgj, hgo⟩, hb9⟩
      have HGJ := Lib.hid hgj
      have HGO := Lib.hid hgo
      clear hgj hgo
      have HX := Lib.hid (HX.out.keep hb9)
      have HR := Lib.hid (HR.out.keep hb9 HR.out.lt)
      have HB := Lib.hid (HB.out.trans (hb9.mono HB.out.size))
      clear hb9
      by_cases hg : g = 0
      · subst hg
        rw [errV_zero rfl]
        obtain ⟨hyn, _, hY, _⟩ := HGO.out rfl
        subst hyn
        obtain ⟨_, _, hm0, hm18⟩ := HGJ.out.1 rfl
        obtain ⟨m, rfl⟩ := Int.eq_ofNat_of_zero_le hm0
        rw [Int.toNat_natCast, Int.toNat_natCast, Int.toNat_natCast, runL_add] at hY
        have HY := Lib.hid hY
        clear HGO HGJ hY
        by_cases hnm : (n : Int) ≤ 1000000000000000000 - (m : Int)
        · have dnm : decide ((n : Int) ≤ 1000000000000000000 - (m : Int)) = true := decide_eq_true hnm
          have HS2 : Hid ((n : Int) + (m : Int) = ((n + m : Nat) : Int)) := by show _ = _; omega
          have l5 := row_range HR.out
          go_wp2_with (refine wpList_load_mid rfl 24 _ rfl b5 0 rfl _ _ l5 Tryd.underlying24 rfl infoRule ?_)
          clear l5
          refine (jump_any K B S s r ta tn tc tz tu wa yn wc wz ((n : Int) + (m : Int)) _ (HT.out.keep HB.out) hu (HW.out.keep HB.out) hwc hnil).mono ?_
          rintro e1 w8 ⟨⟨av, vn, cv, h, rfl, hhj, hho⟩, hb9⟩
          obtain rfl : h = 0 := hhj.2 ⟨HWF.out, HSUM.out, by omega, by omega⟩
          rw [errV_zero rfl]
          obtain ⟨hvn, _, hV, _⟩ := hho rfl
          subst hvn
          rw [HS2.out, Int.toNat_natCast, Int.toNat_natCast, Int.toNat_natCast] at hV
          have HV := Lib.hid hV
          have HY := Lib.hid (HY.out.keep hb9)
          clear hhj hho hV
          have HX := Lib.hid (HX.out.keep hb9)
          have HR := Lib.hid (HR.out.keep hb9 HR.out.lt)
          have HB := Lib.hid (HB.out.trans (hb9.mono HB.out.size))
          clear hb9
          go_wp2_with fail
          refine (ints_eq3 ay av _ _ cy cv _ _ _ HY.out HV.out rfl).mono ?_
          rintro e2 w9 ⟨rfl, hb9⟩
          have HX := Lib.hid (HX.out.keep hb9)
          have HR := Lib.hid (HR.out.keep hb9 HR.out.lt)
          have HB := Lib.hid (HB.out.trans (hb9.mono HB.out.size))
          clear hb9
          clear HY HV
          go_upto_if 115 with fail
          go_step
          go_step
          go_step
          apply_assumption
          refine jtail K B S s r ta tn tc tz tu wa oa ax vn wc on oc cx n wz oz b5 w _ HT hu HW HO hoc honil hle5 HJ HX HR HB _ _ _ _ _ _ _ _ _ _ _ _ _ _ _ _ _ _ _ _ _ _ _ _ _ _ _ _ _ _ _ _ _ _ _ _ _ _ _ _ _ _ _ _ _ _ _ _ _ _ _ _ _ _ _ _ _ _ _ _ _ _ _ _ _ _ _ _ _ _ _ _ _ _ _ _ _ _ _ _ _ _ _ _ _ _ _ _ _ _ _ _ _ _ _ _ _ _ _ _ _ _ _ _ _ _ _ _ _ _ _ _ _ _ _ _ _ _ _ _ _ _ _ _ _ _ _ _ _ _ _ _ _ _ _ _ _ _ _ _ _ _ _ _ _ _ _ _ _ _ _ _ _ _ _ _ _ _ _ _ _ _ _ _ _ _ _ _ _ _ _ _ _ _ _ _ _ _ _ ?_
          intro u14 u23 u24 u25 u26 u27 u28 u29 u116 u117 u118 u119 u120 u121 u122 u123 u124 u125 u126 u127 u128 u129 u130 u131 u132 u133 u134 u135 u136 u137 u138 u139 u140 u141 u142 u143 u144 u145 u146 u147 u148 u149 u150 u151 u152 u153 u154 u155 u156 u157 u158 u159 u160 u161 u162 u163 u164 u165 u166 u167 u168 u169 u170 u171 u172 u173 u174 u175 u176 u177 u178 u179 u180 u181 u182 w30 hb30
          go_ret
          exact ⟨rfl, hb30⟩
        · have dnm : decide ((n : Int) ≤ 1000000000000000000 - (m : Int)) = false := decide_eq_false hnm
          clear HY
          go_upto_if 97 with fail
          go_step
          go_step
          go_step
          rename_i hKK
          refine hKK _ _ ?_
          clear hKK
          refine jtail K B S s r ta tn tc tz tu wa oa ax yn wc on oc cx n wz oz b5 w _ HT hu HW HO hoc honil hle5 HJ HX HR HB _ _ _ _ _ _ _ _ _ _ _ _ _ _ _ _ _ _ _ _ _ _ _ _ _ _ _ _ _ _ _ _ _ _ _ _ _ _ _ _ _ _ _ _ _ _ _ _ _ _ _ _ _ _ _ _ _ _ _ _ _ _ _ _ _ _ _ _ _ _ _ _ _ _ _ _ _ _ _ _ _ _ _ _ _ _ _ _ _ _ _ _ _ _ _ _ _ _ _ _ _ _ _ _ _ _ _ _ _ _ _ _ _ _ _ _ _ _ _ _ _ _ _ _ _ _ _ _ _ _ _ _ _ _ _ _ _ _ _ _ _ _ _ _ _ _ _ _ _ _ _ _ _ _ _ _ _ _ _ _ _ _ _ _ _ _ _ _ _ _ _ _ _ _ _ _ _ _ _ ?_
          intro u14 u23 u24 u25 u26 u27 u28 u29 u116 u117 u118 u119 u120 u121 u122 u123 u124 u125 u126 u127 u128 u129 u130 u131 u132 u133 u134 u135 u136 u137 u138 u139 u140 u141 u142 u143 u144 u145 u146 u147 u148 u149 u150 u151 u152 u153 u154 u155 u156 u157 u158 u159 u160 u161 u162 u163 u164 u165 u166 u167 u168 u169 u170 u171 u172 u173 u174 u175 u176 u177 u178 u179 u180 u181 u182 w30 hb30
          go_ret
          exact ⟨rfl, hb30⟩
      · rw [errV_some hg]
        clear HGJ HGO
        go_upto_if 97 with fail
        go_step
        go_step
        go_step
        rename_i hKK
        refine hKK _ _ ?_
        clear hKK
        refine jtail K B S s r ta tn tc tz tu wa oa ax xn wc on oc cx n wz oz b5 w _ HT hu HW HO hoc honil hle5 HJ HX HR HB _ _ _ _ _ _ _ _ _ _ _ _ _ _ _ _ _ _ _ _ _ _ _ _ _ _ _ _ _ _ _ _ _ _ _ _ _ _ _ _ _ _ _ _ _ _ _ _ _ _ _ _ _ _ _ _ _ _ _ _ _ _ _ _ _ _ _ _ _ _ _ _ _ _ _ _ _ _ _ _ _ _ _ _ _ _ _ _ _ _ _ _ _ _ _ _ _ _ _ _ _ _ _ _ _ _ _ _ _ _ _ _ _ _ _ _ _ _ _ _ _ _ _ _ _ _ _ _ _ _ _ _ _ _ _ _ _ _ _ _ _ _ _ _ _ _ _ _ _ _ _ _ _ _ _ _ _ _ _ _ _ _ _ _ _ _ _ _ _ _ _ _ _ _ _ _ _ _ _ ?_
        intro u14 u23 u24 u25 u26 u27 u28 u29 u116 u117 u118 u119 u120 u121 u122 u123 u124 u125 u126 u127 u128 u129 u130 u131 u132 u133 u134 u135 u136 u137 u138 u139 u140 u141 u142 u143 u144 u145 u146 u147 u148 u149 u150 u151 u152 u153 u154 u155 u156 u157 u158 u159 u160 u161 u162 u163 u164 u165 u166 u167 u168 u169 u170 u171 u172 u173 u174 u175 u176 u177 u178 u179 u180 u181 u182 w30 hb30
        go_ret
        exact ⟨rfl, hb30⟩
  · rw [errV_some hf]
    go_wp2_with fail
    go_ret
    exact ⟨rfl, HB.out⟩
end Ln
end Go.Proofs.YtahhhbdnhimbfaaDoor
