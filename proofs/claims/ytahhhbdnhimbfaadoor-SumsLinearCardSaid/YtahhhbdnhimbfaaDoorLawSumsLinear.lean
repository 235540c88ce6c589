/- THE LAW SumsLinear: its walk, out of its callees' contracts. -/
import Derived.Test.YtahhhbdnhimbfaaDoorSmF
import Derived.Test.YtahhhbdnhimbfaaDoorSmH
import Derived.Test.YtahhhbdnhimbfaaDoorLnFt
import Derived.Test.YtahhhbdnhimbfaaDoorSame
namespace Go.Proofs.YtahhhbdnhimbfaaDoor
set_option linter.unusedSimpArgs false
set_option linter.unusedVariables false
open Go.RowKit
namespace Ln
open Tld Mem Sm

/-- Does the code begin with region n? -/
def heads (n : Nat) : Code → Bool
  | .region i _ _ => i == n
  | .seq a _ => heads n a
  | _ => false
/-- The code from region n on, all that follows it. -/
def frs (n : Nat) : Code → Option Code
  | .seq a b => match heads n a with
    | true => some (.seq a b)
    | false => match frs n a with
      | some c => some c
      | none => frs n b
  | .block _ c => frs n c
  | .scope c => frs n c
  | .loop c => frs n c
  | _ => none

theorem wfault_bound {K B S st ra : Int} {tz : List Int} {tu : ByteArray} {wz : List Int} : -1000 ≤ wfault K B S st ra tz tu wz ∧ wfault K B S st ra tz tu wz ≤ 1000 := by
  classical
  by_cases h : Ok K B S st ra tz tu
  · rw [wfault_yes h]
    split
    · omega
    · split <;> omega
  · rw [wfault_no h]; omega
theorem lfault_cases {K B S st ra : Int} {tz : List Int} {tu : ByteArray} : lfault K B S st ra tz tu = 0 ∨ lfault K B S st ra tz tu = 1 := by
  classical
  by_cases h : Ok K B S st ra tz tu
  · exact .inl (lfault_ok h)
  · exact .inr (lfault_no h)
theorem ints_eq3 (a b : Option Addr) (n m c d : Nat) (xs ys : List Int) (w : World) (hx : Ints.Is w a n xs) (hy : Ints.Is w b m ys) (e : xs = ys) :
    Calls Tryd.prog 11 #[.slice a n c, .slice b m d] w fun e w' => e = .returned (.bool true) ∧ Below w.heap.size w w' := by
  have h := Ints.ints_any a b n m c d xs ys w hx hy
  rw [decide_eq_true e] at h
  exact h
theorem any_step {sz : List Int} {i : Nat} (h : ∀ j, j < i → offW (sz.getD j 0) = false) (hi : offW (sz.getD i 0) = false) : ∀ j, j < i + 1 → offW (sz.getD j 0) = false := fun j hj => by
  by_cases e : j = i
  · rw [e]; exact hi
  · exact h j (by omega)
theorem any_none {sz : List Int} (h : ∀ j, j < sz.length → offW (sz.getD j 0) = false) : sz.any offW = false := by
  rw [List.any_eq_false]
  intro z hz
  obtain ⟨j, hj, e⟩ := List.getElem_of_mem hz
  have := h j hj
  rw [List.getD_eq_getElem?_getD, List.getElem?_eq_getElem hj] at this
  simp at this
  rw [← e]; simp [this]
theorem any_some {sz : List Int} {i : Nat} (hi : i < sz.length) (h : offW (sz.getD i 0) = true) : sz.any offW = true := by
  rw [List.any_eq_true]
  exact ⟨_, int_mem hi, h⟩
theorem offW_bound {sz : List Int} (h : sz.any offW = false) (s : Nat) : -1000 ≤ sz.getD s 0 ∧ sz.getD s 0 ≤ 1000 := by
  rcases Nat.lt_or_ge s sz.length with hs | hs
  · rw [List.any_eq_false] at h
    have := h _ (int_mem hs)
    unfold offW at this
    rw [decide_eq_true_iff] at this
    omega
  · rw [List.getD_eq_getElem?_getD, List.getElem?_eq_none hs]
    show (-1000 : Int) ≤ 0 ∧ (0 : Int) ≤ 1000
    omega
/-- What the loop over weights has found. -/
def Fnd (sz : List Int) (i : Nat) (f : Int) : Prop := (f = 0 ∧ ∀ j, j < i → offW (sz.getD j 0) = false) ∨ (f = 1 ∧ sz.any offW = true)
/-- The numbers of a sum, or none. -/
def Nums (K B S st ra : Int) (tz : List Int) (tu : ByteArray) (w : World) (da : Option Addr) (dn : Nat) (isb : Bool) : Prop :=
  if isb = true then lfault K B S st ra tz tu = 0 ∧ dn = 2 * ra.toNat + 1 ∧ Ints.Is w da (2 * ra.toNat + 1) (lst (2 * ra.toNat + 1) (cof (wf tz) st.toNat (2 * ra.toNat + 1))) ∧ SumT (wf tz) st.toNat (2 * ra.toNat + 1) else (lfault K B S st ra tz tu = 0 → ¬ SumT (wf tz) st.toNat (2 * ra.toNat + 1))
theorem Nums.keep {K B S st ra : Int} {tz : List Int} {tu : ByteArray} {w w' : World} {da : Option Addr} {dn : Nat} {isb : Bool} (h : Nums K B S st ra tz tu w da dn isb) (hb : Below w.heap.size w w') : Nums K B S st ra tz tu w' da dn isb := by
  unfold Nums at *
  split at h
  · rename_i e; rw [if_pos e]; exact ⟨h.1, h.2.1, h.2.2.1.keep hb, h.2.2.2⟩
  · rename_i e; rw [if_neg e]; exact h
theorem nil_is (w : World) : Ints.Is w none 0 [] := Ints.Is.nil w
set_option maxHeartbeats 8000000 in
set_option maxRecDepth 1000000 in
theorem p3 (K B S st ra : Int) (ta : Option Addr) (tn tc : Nat) (tz : List Int) (tu : ByteArray) (sa : Option Addr) (sn sc : Nat) (sz : List Int) (e : Int) (b4 : Nat) (w0 w : World)
    (HL : Hid (Tld.Laid w0)) (HT : Hid (Ints.Is w0 ta tn tz)) (hu : tu.size ≤ 9223372036854775807) (HS : Hid (Ints.Is w0 sa sn sz)) (HE : Hid (lfault K B S st ra tz tu = e)) (hb4 : w0.heap.size ≤ b4)
    (HR : Hid (Row w b4 24 (rulL K B S st ra ta tn tc tu))) (HB : Hid (Below w0.heap.size w0 w))
    (c0 c1 c2 c5 c6 c7 c8 c10 c11 c12 c13 c14 c15 c16 c17 c18 c19 c20 c21 c22 c23 c24 c25 c26 c27 c28 c29 c30 c31 c32 c33 c34 c35 c36 c37 c38 c39 c40 c41 c42 c43 c44 c45 c46 c47 c48 c49 c50 c51 c52 c53 c54 c55 c56 c57 c58 c59 c60 c61 c62 c63 c64 c65 c66 c67 c68 c69 c70 c71 c72 c73 c74 c75 c76 c77 c78 c79 c80 c81 c82 c83 c84 c85 c86 c87 c88 c89 c90 c91 c92 c93 c94 c95 c96 c97 c98 c99 c100 c101 c102 c103 c104 c105 c106 c107 c108 c109 c110 c111 c112 c113 c114 c115 c116 c117 c118 c119 c120 c121 c122 c123 c124 c125 c126 c127 c128 c129 c130 c131 c132 c133 c134 c135 c136 c137 c138 c139 c140 c141 c142 c143 c144 c145 c146 c147 c148 c149 c150 c151 : Value) (Q : Exit → Act → World → Prop)
    (hret : ∀ {u9 u11 u15 u19 u20 u21 u96 u97 u98 u99 u100 u101 u102 u103 u104 u105 u106 u107 u108 u109 u110 u111 u112 u113 u114 u115 u116 u117 u118 u119 u120 u121 u122 u123 u124 u125 u126 u127 u128 u129 u130 u131 u132 u133 u134 u135 u136 u137 u138 u139 u140 u141 u142 u143 u144 u145 u146 u147 u148 u149 u150 u151 : Value} {w' : World}, Below w0.heap.size w0 w' → Q .ret ⟨#[c0, c1, c2, .slice sa sn sc, .pointer (some ⟨b4, 0, none⟩), c5, c6, c7, .bool true, u9, c10, u11, c12, c13, c14, u15, c16, c17, c18, u19, u20, u21, c22, c23, c24, c25, c26, c27, c28, c29, c30, c31, c32, c33, c34, c35, c36, c37, c38, c39, c40, c41, c42, c43, c44, c45, c46, c47, c48, c49, c50, c51, c52, c53, c54, c55, c56, c57, c58, c59, c60, c61, c62, c63, c64, c65, c66, c67, c68, c69, c70, c71, c72, c73, c74, c75, c76, c77, c78, c79, c80, c81, c82, c83, c84, c85, c86, c87, c88, c89, c90, c91, c92, c93, c94, c95, u96, u97, u98, u99, u100, u101, u102, u103, u104, u105, u106, u107, u108, u109, u110, u111, u112, u113, u114, u115, u116, u117, u118, u119, u120, u121, u122, u123, u124, u125, u126, u127, u128, u129, u130, u131, u132, u133, u134, u135, u136, u137, u138, u139, u140, u141, u142, u143, u144, u145, u146, u147, u148, u149, u150, u151], []⟩ w')
    : Code.wp Tryd.prog ((frs 27 (Tryd.f5.body.getD .skip)).getD .skip) Q ⟨#[c0, c1, c2, .slice sa sn sc, .pointer (some ⟨b4, 0, none⟩), c5, c6, c7, c8, .int .i64 e, c10, c11, c12, c13, c14, c15, c16, c17, c18, c19, c20, c21, c22, c23, c24, c25, c26, c27, c28, c29, c30, c31, c32, c33, c34, c35, c36, c37, c38, c39, c40, c41, c42, c43, c44, c45, c46, c47, c48, c49, c50, c51, c52, c53, c54, c55, c56, c57, c58, c59, c60, c61, c62, c63, c64, c65, c66, c67, c68, c69, c70, c71, c72, c73, c74, c75, c76, c77, c78, c79, c80, c81, c82, c83, c84, c85, c86, c87, c88, c89, c90, c91, c92, c93, c94, c95, c96, c97, c98, c99, c100, c101, c102, c103, c104, c105, c106, c107, c108, c109, c110, c111, c112, c113, c114, c115, c116, c117, c118, c119, c120, c121, c122, c123, c124, c125, c126, c127, c128, c129, c130, c131, c132, c133, c134, c135, c136, c137, c138, c139, c140, c141, c142, c143, c144, c145, c146, c147, c148, c149, c150, c151], []⟩ w := by
  conv => arg 2; whnf
  rcases lfault_cases (K := K) (B := B) (S := S) (st := st) (ra := ra) (tz := tz) (tu := tu) with h0 | h0
  · --{A
    obtain rfl : e = 0 := by rw [← HE.out, h0]
    have f3 := HR.out.cell 3
    unfold rulL at f3
    dsimp only [List.getElem?_cons_succ, List.getElem?_cons_zero] at f3
    obtain ⟨s, r, rfl, rfl, h2, h4, hr5, htn, htl, htz⟩ := (lfault_01 h0).nat HT.out.len
    have HF0 := Lib.hid h0
    clear htn htl htz h0 HE
    by_cases hss : sn = s
    · --{B
      have bne : ((sn : Int) != (s : Int)) = false := by rw [hss]; exact bne_self_eq_false _
      have HSS := Lib.hid hss
      have HSL := Lib.hid HS.out.len
      have hsm := HS.out.le
      unfold maxLen at hsm
      clear hss
      obtain ⟨wo, rfl⟩ : ∃ wo : World, wo = w := ⟨_, rfl⟩
      go_wp2_with fail
      go_loopw [9, 19] (fun u v wr => ∃ (i : Nat) (f : Int), i ≤ sn ∧ v = .int .i64 i ∧ u = .int .i64 f ∧ Fnd sz i f ∧ Below wo.heap.size wo wr) (fun u v _ => sn + 1 - (intOf v).toNat)
      case atStart => exact ⟨0, 0, Nat.zero_le _, rfl, rfl, .inl ⟨rfl, fun j hj => absurd hj (Nat.not_lt_zero _)⟩, Below.refl _ _⟩
      case round =>
        obtain ⟨i, f, hi, rfl, rfl, hfn, hbw⟩ := hrel
        have HFN := Lib.hid hfn
        have HBW := Lib.hid hbw
        clear hfn hbw f3
        by_cases hlt : i < sn
        · by_cases hf : f = 0
          · subst hf
            have hnone := HFN.out.resolve_right (fun h => by cases h.1)
            have HNO := Lib.hid hnone.2
            obtain ⟨bs, os, rfl, _, hcs⟩ := (HS.out.keep (HB.out.trans (HBW.out.mono HB.out.size))).cells i hlt
            dsimp only at hcs
            obtain ⟨z, hz⟩ : ∃ z, z = sz.getD i 0 := ⟨_, rfl⟩
            rw [← hz] at hcs
            have HZ := Lib.hid hz
            clear hnone hz HFN
            by_cases h1 : z < -1000
            · have d1 : decide (z < -1000) = true := decide_eq_true h1
              have HFN : Hid (Fnd sz (i + 1) 1) := .inr ⟨rfl, any_some (by rw [HSL.out]; exact hlt) (by rw [← HZ.out]; unfold offW; simp; omega)⟩
              clear h1
              go_wp2_with fail
              go_roundw
              case rel => exact ⟨i + 1, 1, by omega, by go_num, rfl, HFN.out, HBW.out⟩
              case measure => simp [intOf]; omega
            · have d1 : decide (z < -1000) = false := decide_eq_false h1
              by_cases h2' : 1000 < z
              · have d2 : decide (1000 < z) = true := decide_eq_true h2'
                have HFN : Hid (Fnd sz (i + 1) 1) := .inr ⟨rfl, any_some (by rw [HSL.out]; exact hlt) (by rw [← HZ.out]; unfold offW; simp; omega)⟩
                clear h1 h2'
                go_wp2_with fail
                go_roundw
                case rel => exact ⟨i + 1, 1, by omega, by go_num, rfl, HFN.out, HBW.out⟩
                case measure => simp [intOf]; omega
              · have d2 : decide (1000 < z) = false := decide_eq_false h2'
                have HFN : Hid (Fnd sz (i + 1) 0) := .inl ⟨rfl, any_step HNO.out (by rw [← HZ.out]; unfold offW; simp; omega)⟩
                clear h1 h2'
                go_wp2_with fail
                go_roundw
                case rel => exact ⟨i + 1, 0, by omega, by go_num, rfl, HFN.out, HBW.out⟩
                case measure => simp [intOf]; omega
          · --{C
            have e0 : (f == 0) = false := by rw [beq_eq_false_iff_ne]; exact hf
            have hone := HFN.out.resolve_left (fun h => hf h.1)
            obtain ⟨rfl, hany⟩ := hone
            have HANY := Lib.hid hany
            clear hany hf HFN
            have HR := Lib.hid (HR.out.keep HBW.out HR.out.lt)
            have HB := Lib.hid (HB.out.trans (HBW.out.mono HB.out.size))
            clear HBW
            have l4 := row_range HR.out
            go_wp2_with (refine wpList_load_mid rfl 24 _ rfl b4 0 rfl _ _ l4 Tryd.underlying24 rfl infoRule ?_)
            clear l4
            refine (keeps_bad3 K B S s r ta tn tc tz tu sa _ sc sz _ (HT.out.keep HB.out) hu (HS.out.keep HB.out) HF0.out HSS.out HANY.out).mono ?_
            rintro e9 w9 ⟨rfl, hb9⟩
            have HR := Lib.hid (HR.out.keep hb9 HR.out.lt)
            have HB := Lib.hid (HB.out.trans (hb9.mono HB.out.size))
            clear hb9
            go_wp2_with fail
            refine (same_iface 1 _ (HL.out.keep HB.out) (by omega) (by decide)).mono ?_
            rintro e9 w9 ⟨rfl, hb9⟩
            have HR := Lib.hid (HR.out.keep hb9 HR.out.lt)
            have HB := Lib.hid (HB.out.trans (hb9.mono HB.out.size))
            clear hb9
            go_wp2_with fail
            first
            | exact HB.out
            | exact hret HB.out
            --}
        · have ei : i = sn := by omega
          subst ei
          by_cases hf : f = 0
          · --{D
            subst hf
            have hnone := HFN.out.resolve_right (fun h => by cases h.1)
            have hany : sz.any offW = false := any_none (by rw [HSL.out]; exact hnone.2)
            have HANY := Lib.hid hany
            clear hany hnone HFN
            have HR := Lib.hid (HR.out.keep HBW.out HR.out.lt)
            have HB := Lib.hid (HB.out.trans (HBW.out.mono HB.out.size))
            clear HBW
            obtain ⟨kk, hkk⟩ : ∃ kk : Bool, kk = true ↔ KeptW (fun s => sz.getD s 0) (wf tz) s (2 * r + 1) := by
              classical
              exact ⟨decide (KeptW (fun s => sz.getD s 0) (wf tz) s (2 * r + 1)), decide_eq_true_iff⟩
            have HKK := Lib.hid hkk
            clear hkk
            have l4 := row_range HR.out
            go_wp2_with (refine wpList_load_mid rfl 24 _ rfl b4 0 rfl _ _ l4 Tryd.underlying24 rfl infoRule ?_)
            clear l4
            refine (keeps_ok K B S s r ta tn tc tz tu sa _ sc sz _ (HT.out.keep HB.out) hu (HS.out.keep HB.out) HF0.out HSS.out HANY.out kk HKK.out).mono ?_
            rintro e9 w9 ⟨rfl, hb9⟩
            have HR := Lib.hid (HR.out.keep hb9 HR.out.lt)
            have HB := Lib.hid (HB.out.trans (hb9.mono HB.out.size))
            clear hb9
            go_wp2_with fail
            refine (same_nil _ (HL.out.keep HB.out)).mono ?_
            rintro e9 w9 ⟨rfl, hb9⟩
            have HR := Lib.hid (HR.out.keep hb9 HR.out.lt)
            have HB := Lib.hid (HB.out.trans (hb9.mono HB.out.size))
            clear hb9
            have l4 := row_range HR.out
            go_wp2_with (refine wpList_load_mid rfl 24 _ rfl b4 0 rfl _ _ l4 Tryd.underlying24 rfl infoRule ?_)
            clear l4
            refine (keeps2_any K B S s r ta tn tc tz tu sa _ sc sz _ (HT.out.keep HB.out) HF0.out (HS.out.keep HB.out) HSS.out (offW_bound HANY.out) kk HKK.out).mono ?_
            rintro e9 w9 ⟨rfl, hb9⟩
            have HR := Lib.hid (HR.out.keep hb9 HR.out.lt)
            have HB := Lib.hid (HB.out.trans (hb9.mono HB.out.size))
            clear hb9
            go_wp2_with fail
            first
            | exact HB.out
            | exact hret HB.out
            --}
          · --{E
            have e0 : (f == 0) = false := by rw [beq_eq_false_iff_ne]; exact hf
            have hone := HFN.out.resolve_left (fun h => hf h.1)
            obtain ⟨rfl, hany⟩ := hone
            have HANY := Lib.hid hany
            clear hany hf HFN
            have HR := Lib.hid (HR.out.keep HBW.out HR.out.lt)
            have HB := Lib.hid (HB.out.trans (HBW.out.mono HB.out.size))
            clear HBW
            have l4 := row_range HR.out
            go_wp2_with (refine wpList_load_mid rfl 24 _ rfl b4 0 rfl _ _ l4 Tryd.underlying24 rfl infoRule ?_)
            clear l4
            refine (keeps_bad3 K B S s r ta tn tc tz tu sa _ sc sz _ (HT.out.keep HB.out) hu (HS.out.keep HB.out) HF0.out HSS.out HANY.out).mono ?_
            rintro e9 w9 ⟨rfl, hb9⟩
            have HR := Lib.hid (HR.out.keep hb9 HR.out.lt)
            have HB := Lib.hid (HB.out.trans (hb9.mono HB.out.size))
            clear hb9
            go_wp2_with fail
            refine (same_iface 1 _ (HL.out.keep HB.out) (by omega) (by decide)).mono ?_
            rintro e9 w9 ⟨rfl, hb9⟩
            have HR := Lib.hid (HR.out.keep hb9 HR.out.lt)
            have HB := Lib.hid (HB.out.trans (hb9.mono HB.out.size))
            clear hb9
            go_wp2_with fail
            first
            | exact HB.out
            | exact hret HB.out
            --}
      --}
    · --{F
      have bne : ((sn : Int) != (s : Int)) = true := by rw [bne_iff_ne]; omega
      have HSS := Lib.hid hss
      obtain ⟨wo, rfl⟩ : ∃ wo : World, wo = w := ⟨_, rfl⟩
      clear hss
      go_wp2_with fail
      go_loopw [9, 19] (fun u v wr => u = .int .i64 3 ∧ v = .int .i64 0 ∧ Below wo.heap.size wo wr) (fun _ v _ => 0)
      case atStart => exact ⟨rfl, rfl, Below.refl _ _⟩
      case round =>
        obtain ⟨rfl, rfl, hbw⟩ := hrel
        have HBW := Lib.hid hbw
        clear hbw f3
        have HR := Lib.hid (HR.out.keep HBW.out HR.out.lt)
        have HB := Lib.hid (HB.out.trans (HBW.out.mono HB.out.size))
        clear HBW
        by_cases hsn : 0 < sn
        · have dsn : decide ((0 : Int) < (sn : Int)) = true := decide_eq_true (by omega)
          have dsn2 : decide (0 < sn) = true := decide_eq_true hsn
          clear hsn
          have l4 := row_range HR.out
          go_wp2_with (refine wpList_load_mid rfl 24 _ rfl b4 0 rfl _ _ l4 Tryd.underlying24 rfl infoRule ?_)
          clear l4
          refine (keeps_bad2 K B S s r ta tn tc tz tu sa sn sc sz _ (HT.out.keep HB.out) hu (HS.out.keep HB.out) HF0.out HSS.out).mono ?_
          rintro e9 w9 ⟨rfl, hb9⟩
          have HR := Lib.hid (HR.out.keep hb9 HR.out.lt)
          have HB := Lib.hid (HB.out.trans (hb9.mono HB.out.size))
          clear hb9
          go_wp2_with fail
          refine (same_iface 3 _ (HL.out.keep HB.out) (by omega) (by decide)).mono ?_
          rintro e9 w9 ⟨rfl, hb9⟩
          have HR := Lib.hid (HR.out.keep hb9 HR.out.lt)
          have HB := Lib.hid (HB.out.trans (hb9.mono HB.out.size))
          clear hb9
          go_wp2_with fail
          first
          | exact HB.out
          | exact hret HB.out
        · have dsn : decide ((0 : Int) < (sn : Int)) = false := decide_eq_false (by omega)
          have dsn2 : decide (0 < sn) = false := decide_eq_false hsn
          clear hsn
          have l4 := row_range HR.out
          go_wp2_with (refine wpList_load_mid rfl 24 _ rfl b4 0 rfl _ _ l4 Tryd.underlying24 rfl infoRule ?_)
          clear l4
          refine (keeps_bad2 K B S s r ta tn tc tz tu sa sn sc sz _ (HT.out.keep HB.out) hu (HS.out.keep HB.out) HF0.out HSS.out).mono ?_
          rintro e9 w9 ⟨rfl, hb9⟩
          have HR := Lib.hid (HR.out.keep hb9 HR.out.lt)
          have HB := Lib.hid (HB.out.trans (hb9.mono HB.out.size))
          clear hb9
          go_wp2_with fail
          refine (same_iface 3 _ (HL.out.keep HB.out) (by omega) (by decide)).mono ?_
          rintro e9 w9 ⟨rfl, hb9⟩
          have HR := Lib.hid (HR.out.keep hb9 HR.out.lt)
          have HB := Lib.hid (HB.out.trans (hb9.mono HB.out.size))
          clear hb9
          go_wp2_with fail
          first
          | exact HB.out
          | exact hret HB.out
      --}
    --}
  · --{G
    obtain rfl : e = 1 := by rw [← HE.out, h0]
    have HF0 := Lib.hid h0
    clear h0 HE
    obtain ⟨wo, rfl⟩ : ∃ wo : World, wo = w := ⟨_, rfl⟩
    go_wp2_with fail
    go_loopw [9, 19] (fun u v wr => u = .int .i64 1 ∧ v = .int .i64 0 ∧ Below wo.heap.size wo wr) (fun _ v _ => 0)
    case atStart => exact ⟨rfl, rfl, Below.refl _ _⟩
    case round =>
      obtain ⟨rfl, rfl, hbw⟩ := hrel
      have HBW := Lib.hid hbw
      clear hbw
      have HR := Lib.hid (HR.out.keep HBW.out HR.out.lt)
      have HB := Lib.hid (HB.out.trans (HBW.out.mono HB.out.size))
      clear HBW
      by_cases hsn : 0 < sn
      · have dsn : decide ((0 : Int) < (sn : Int)) = true := decide_eq_true (by omega)
        have dsn2 : decide (0 < sn) = true := decide_eq_true hsn
        clear hsn
        have l4 := row_range HR.out
        go_wp2_with (refine wpList_load_mid rfl 24 _ rfl b4 0 rfl _ _ l4 Tryd.underlying24 rfl infoRule ?_)
        clear l4
        refine (keeps_bad1 K B S st ra ta tn tc tz tu sa sn sc sz _ (HT.out.keep HB.out) hu (HS.out.keep HB.out) HF0.out).mono ?_
        rintro e9 w9 ⟨rfl, hb9⟩
        have HR := Lib.hid (HR.out.keep hb9 HR.out.lt)
        have HB := Lib.hid (HB.out.trans (hb9.mono HB.out.size))
        clear hb9
        go_wp2_with fail
        refine (same_iface 1 _ (HL.out.keep HB.out) (by omega) (by decide)).mono ?_
        rintro e9 w9 ⟨rfl, hb9⟩
        have HR := Lib.hid (HR.out.keep hb9 HR.out.lt)
        have HB := Lib.hid (HB.out.trans (hb9.mono HB.out.size))
        clear hb9
        go_wp2_with fail
        first
        | exact HB.out
        | exact hret HB.out
      · have dsn : decide ((0 : Int) < (sn : Int)) = false := decide_eq_false (by omega)
        have dsn2 : decide (0 < sn) = false := decide_eq_false hsn
        clear hsn
        have l4 := row_range HR.out
        go_wp2_with (refine wpList_load_mid rfl 24 _ rfl b4 0 rfl _ _ l4 Tryd.underlying24 rfl infoRule ?_)
        clear l4
        refine (keeps_bad1 K B S st ra ta tn tc tz tu sa sn sc sz _ (HT.out.keep HB.out) hu (HS.out.keep HB.out) HF0.out).mono ?_
        rintro e9 w9 ⟨rfl, hb9⟩
        have HR := Lib.hid (HR.out.keep hb9 HR.out.lt)
        have HB := Lib.hid (HB.out.trans (hb9.mono HB.out.size))
        clear hb9
        go_wp2_with fail
        refine (same_iface 1 _ (HL.out.keep HB.out) (by omega) (by decide)).mono ?_
        rintro e9 w9 ⟨rfl, hb9⟩
        have HR := Lib.hid (HR.out.keep hb9 HR.out.lt)
        have HB := Lib.hid (HB.out.trans (hb9.mono HB.out.size))
        clear hb9
        go_wp2_with fail
        first
        | exact HB.out
        | exact hret HB.out
    --}
set_option maxHeartbeats 8000000 in
set_option maxRecDepth 1000000 in
theorem p2 (K B S st ra : Int) (ta : Option Addr) (tn tc : Nat) (tz : List Int) (tu : ByteArray) (wa : Option Addr) (wn wc : Nat) (wz : List Int) (n : Int) (da : Option Addr) (dn dc : Nat) (isb : Bool) (sa : Option Addr) (sn sc : Nat) (sz : List Int) (e : Int) (b4 : Nat) (w0 w : World)
    (HL : Hid (Tld.Laid w0)) (HT : Hid (Ints.Is w0 ta tn tz)) (hu : tu.size ≤ 9223372036854775807) (HS : Hid (Ints.Is w0 sa sn sz)) (HE : Hid (lfault K B S st ra tz tu = e)) (hb4 : w0.heap.size ≤ b4)
    (HW : Hid (Ints.Is w0 wa wn wz)) (hwc : wn ≤ wc) (hnil : wa = none → wn = 0) (HD : Hid (Nums K B S st ra tz tu w da dn isb))
    (HR : Hid (Row w b4 24 (rulL K B S st ra ta tn tc tu))) (HB : Hid (Below w0.heap.size w0 w))
    (c0 c5 c6 c7 c8 c10 c11 c14 c15 c16 c17 c18 c19 c20 c21 c22 c23 c24 c25 c26 c27 c28 c29 c30 c31 c32 c33 c34 c35 c36 c37 c38 c39 c40 c41 c42 c43 c44 c45 c46 c47 c48 c49 c50 c51 c52 c53 c54 c55 c56 c57 c58 c59 c60 c61 c62 c63 c64 c65 c66 c67 c68 c69 c70 c71 c72 c73 c74 c75 c76 c77 c78 c79 c80 c81 c82 c83 c84 c85 c86 c87 c88 c89 c90 c91 c92 c93 c94 c95 c96 c97 c98 c99 c100 c101 c102 c103 c104 c105 c106 c107 c108 c109 c110 c111 c112 c113 c114 c115 c116 c117 c118 c119 c120 c121 c122 c123 c124 c125 c126 c127 c128 c129 c130 c131 c132 c133 c134 c135 c136 c137 c138 c139 c140 c141 c142 c143 c144 c145 c146 c147 c148 c149 c150 c151 : Value) (Q : Exit → Act → World → Prop)
    (hret : ∀ {u9 u11 u14 u15 u16 u17 u18 u19 u20 u21 u51 u52 u53 u54 u55 u56 u57 u58 u59 u60 u61 u62 u63 u64 u65 u66 u67 u68 u69 u70 u71 u72 u73 u74 u75 u76 u77 u78 u79 u80 u81 u82 u83 u84 u85 u86 u87 u88 u89 u90 u91 u92 u93 u94 u95 u96 u97 u98 u99 u100 u101 u102 u103 u104 u105 u106 u107 u108 u109 u110 u111 u112 u113 u114 u115 u116 u117 u118 u119 u120 u121 u122 u123 u124 u125 u126 u127 u128 u129 u130 u131 u132 u133 u134 u135 u136 u137 u138 u139 u140 u141 u142 u143 u144 u145 u146 u147 u148 u149 u150 u151 : Value} {w' : World}, Below w0.heap.size w0 w' → Q .ret ⟨#[c0, .slice wa wn wc, .int .i64 n, .slice sa sn sc, .pointer (some ⟨b4, 0, none⟩), c5, c6, c7, .bool true, u9, c10, u11, .slice da dn dc, .bool isb, u14, u15, u16, u17, u18, u19, u20, u21, c22, c23, c24, c25, c26, c27, c28, c29, c30, c31, c32, c33, c34, c35, c36, c37, c38, c39, c40, c41, c42, c43, c44, c45, c46, c47, c48, c49, c50, u51, u52, u53, u54, u55, u56, u57, u58, u59, u60, u61, u62, u63, u64, u65, u66, u67, u68, u69, u70, u71, u72, u73, u74, u75, u76, u77, u78, u79, u80, u81, u82, u83, u84, u85, u86, u87, u88, u89, u90, u91, u92, u93, u94, u95, u96, u97, u98, u99, u100, u101, u102, u103, u104, u105, u106, u107, u108, u109, u110, u111, u112, u113, u114, u115, u116, u117, u118, u119, u120, u121, u122, u123, u124, u125, u126, u127, u128, u129, u130, u131, u132, u133, u134, u135, u136, u137, u138, u139, u140, u141, u142, u143, u144, u145, u146, u147, u148, u149, u150, u151], []⟩ w')
    : Code.wp Tryd.prog ((frs 14 (Tryd.f5.body.getD .skip)).getD .skip) Q ⟨#[c0, .slice wa wn wc, .int .i64 n, .slice sa sn sc, .pointer (some ⟨b4, 0, none⟩), c5, c6, c7, c8, .int .i64 e, c10, c11, .slice da dn dc, .bool isb, c14, c15, c16, c17, c18, c19, c20, c21, c22, c23, c24, c25, c26, c27, c28, c29, c30, c31, c32, c33, c34, c35, c36, c37, c38, c39, c40, c41, c42, c43, c44, c45, c46, c47, c48, c49, c50, c51, c52, c53, c54, c55, c56, c57, c58, c59, c60, c61, c62, c63, c64, c65, c66, c67, c68, c69, c70, c71, c72, c73, c74, c75, c76, c77, c78, c79, c80, c81, c82, c83, c84, c85, c86, c87, c88, c89, c90, c91, c92, c93, c94, c95, c96, c97, c98, c99, c100, c101, c102, c103, c104, c105, c106, c107, c108, c109, c110, c111, c112, c113, c114, c115, c116, c117, c118, c119, c120, c121, c122, c123, c124, c125, c126, c127, c128, c129, c130, c131, c132, c133, c134, c135, c136, c137, c138, c139, c140, c141, c142, c143, c144, c145, c146, c147, c148, c149, c150, c151], []⟩ w := by
  conv => arg 2; whnf
  have hbd := wfault_bound (K := K) (B := B) (S := S) (st := st) (ra := ra) (tz := tz) (tu := tu) (wz := wz)
  obtain ⟨f, hf⟩ : ∃ f, wfault K B S st ra tz tu wz = f := ⟨_, rfl⟩
  have HF := Lib.hid hf
  rw [hf] at hbd
  have HFA := Lib.hid (fun w2 (h2 : Below w0.heap.size w0 w2) => fault2_any K B S st ra ta tn tc tz tu wa wn wc wz w2 (HT.out.keep h2) hu (HW.out.keep h2))
  rw [hf] at HFA
  unfold rulL at HFA
  clear hf
  have l4 := row_range HR.out
  go_wp2_with (refine wpList_load_mid rfl 24 _ rfl b4 0 rfl _ _ l4 Tryd.underlying24 rfl infoRule ?_)
  clear l4
  refine (HFA.out _ HB.out).mono ?_
  rintro e9 w9 ⟨rfl, hb9⟩
  have HR := Lib.hid (HR.out.keep hb9 HR.out.lt)
  have HB := Lib.hid (HB.out.trans (hb9.mono HB.out.size))
  have HD := Lib.hid (HD.out.keep hb9)
  clear HFA
  clear hb9
  by_cases hf0 : f = 0
  · --{A
    subst hf0
    have hl0 : lfault K B S st ra tz tu = 0 := lfault_ok (wfault_zero HF.out).1
    obtain ⟨s, r, rfl, rfl, h2, h4, hr5, htn, htl, htz⟩ := (lfault_01 hl0).nat HT.out.len
    have hd := HD.out
    unfold Nums at hd
    have HL0 := Lib.hid hl0
    clear htn htl htz hl0 HD
    cases isb
    · --{B
      rw [if_neg (by decide)] at hd
      have HNS := Lib.hid (hd HL0.out)
      rw [Int.toNat_natCast, Int.toNat_natCast] at HNS
      clear hd
      have l4 := row_range HR.out
      go_wp2_with (refine wpList_load_mid rfl 24 _ rfl b4 0 rfl _ _ l4 Tryd.underlying24 rfl infoRule ?_)
      clear l4
      refine (jump_bad2 K B S s r ta tn tc tz tu wa wn wc wz n _ (HT.out.keep HB.out) hu (HW.out.keep HB.out) HF.out HNS.out).mono ?_
      rintro e9 w9 ⟨rfl, hb9⟩
      have HR := Lib.hid (HR.out.keep hb9 HR.out.lt)
      have HB := Lib.hid (HB.out.trans (hb9.mono HB.out.size))
      clear hb9
      go_wp2_with fail
      refine (same_iface 5 _ (HL.out.keep HB.out) (by omega) (by decide)).mono ?_
      rintro e9 w9 ⟨rfl, hb9⟩
      have HR := Lib.hid (HR.out.keep hb9 HR.out.lt)
      have HB := Lib.hid (HB.out.trans (hb9.mono HB.out.size))
      clear hb9
      go_wp2_with fail
      refine (ints_eq3 none none 0 0 0 0 [] [] _ (nil_is _) (nil_is _) rfl).mono ?_
      rintro e9 w9 ⟨rfl, hb9⟩
      have HR := Lib.hid (HR.out.keep hb9 HR.out.lt)
      have HB := Lib.hid (HB.out.trans (hb9.mono HB.out.size))
      clear hb9
      go_upto_if 95 with fail
      go_step
      go_step
      go_step
      apply_assumption
      refine p3 K B S s r ta tn tc tz tu sa sn sc sz _ b4 w0 _ HL HT hu HS HE hb4 HR HB _ _ _ _ _ _ _ _ _ _ _ _ _ _ _ _ _ _ _ _ _ _ _ _ _ _ _ _ _ _ _ _ _ _ _ _ _ _ _ _ _ _ _ _ _ _ _ _ _ _ _ _ _ _ _ _ _ _ _ _ _ _ _ _ _ _ _ _ _ _ _ _ _ _ _ _ _ _ _ _ _ _ _ _ _ _ _ _ _ _ _ _ _ _ _ _ _ _ _ _ _ _ _ _ _ _ _ _ _ _ _ _ _ _ _ _ _ _ _ _ _ _ _ _ _ _ _ _ _ _ _ _ _ _ _ _ _ _ _ _ _ _ _ _ _ _ _ _ _ _ ?_
      intro u9 u11 u15 u19 u20 u21 u96 u97 u98 u99 u100 u101 u102 u103 u104 u105 u106 u107 u108 u109 u110 u111 u112 u113 u114 u115 u116 u117 u118 u119 u120 u121 u122 u123 u124 u125 u126 u127 u128 u129 u130 u131 u132 u133 u134 u135 u136 u137 u138 u139 u140 u141 u142 u143 u144 u145 u146 u147 u148 u149 u150 u151 w30 hb30
      exact hret hb30
      --}
    · --{C
      rw [if_pos rfl] at hd
      obtain ⟨_, hdn, hD, hsum⟩ := hd
      rw [Int.toNat_natCast] at hdn
      rw [Int.toNat_natCast, Int.toNat_natCast] at hD hsum
      subst hdn
      have HDD := Lib.hid hD
      have HSUM := Lib.hid hsum
      clear hD hsum
      by_cases hn0 : n < 0
      · have d0 : decide (n < 0) = true := decide_eq_true hn0
        have HN : Hid (n < 0 ∨ 1000000000000000000 < n) := .inl hn0
        clear hn0
        have l4 := row_range HR.out
        go_wp2_with (refine wpList_load_mid rfl 24 _ rfl b4 0 rfl _ _ l4 Tryd.underlying24 rfl infoRule ?_)
        clear l4
        refine (jump_bad3 K B S s r ta tn tc tz tu wa wn wc wz n _ (HT.out.keep HB.out) hu (HW.out.keep HB.out) HF.out HSUM.out HN.out).mono ?_
        rintro e9 w9 ⟨rfl, hb9⟩
        have HR := Lib.hid (HR.out.keep hb9 HR.out.lt)
        have HB := Lib.hid (HB.out.trans (hb9.mono HB.out.size))
        clear HDD
        clear hb9
        go_wp2_with fail
        refine (same_iface 1 _ (HL.out.keep HB.out) (by omega) (by decide)).mono ?_
        rintro e9 w9 ⟨rfl, hb9⟩
        have HR := Lib.hid (HR.out.keep hb9 HR.out.lt)
        have HB := Lib.hid (HB.out.trans (hb9.mono HB.out.size))
        clear hb9
        go_wp2_with fail
        refine (ints_eq3 none none 0 0 0 0 [] [] _ (nil_is _) (nil_is _) rfl).mono ?_
        rintro e9 w9 ⟨rfl, hb9⟩
        have HR := Lib.hid (HR.out.keep hb9 HR.out.lt)
        have HB := Lib.hid (HB.out.trans (hb9.mono HB.out.size))
        clear hb9
        go_upto_if 95 with fail
        go_step
        go_step
        go_step
        apply_assumption
        refine p3 K B S s r ta tn tc tz tu sa sn sc sz _ b4 w0 _ HL HT hu HS HE hb4 HR HB _ _ _ _ _ _ _ _ _ _ _ _ _ _ _ _ _ _ _ _ _ _ _ _ _ _ _ _ _ _ _ _ _ _ _ _ _ _ _ _ _ _ _ _ _ _ _ _ _ _ _ _ _ _ _ _ _ _ _ _ _ _ _ _ _ _ _ _ _ _ _ _ _ _ _ _ _ _ _ _ _ _ _ _ _ _ _ _ _ _ _ _ _ _ _ _ _ _ _ _ _ _ _ _ _ _ _ _ _ _ _ _ _ _ _ _ _ _ _ _ _ _ _ _ _ _ _ _ _ _ _ _ _ _ _ _ _ _ _ _ _ _ _ _ _ _ _ _ _ _ ?_
        intro u9 u11 u15 u19 u20 u21 u96 u97 u98 u99 u100 u101 u102 u103 u104 u105 u106 u107 u108 u109 u110 u111 u112 u113 u114 u115 u116 u117 u118 u119 u120 u121 u122 u123 u124 u125 u126 u127 u128 u129 u130 u131 u132 u133 u134 u135 u136 u137 u138 u139 u140 u141 u142 u143 u144 u145 u146 u147 u148 u149 u150 u151 w30 hb30
        exact hret hb30
      · have d0 : decide (n < 0) = false := decide_eq_false hn0
        by_cases hn1 : 1000000000000000000 < n
        · have d1 : decide (1000000000000000000 < n) = true := decide_eq_true hn1
          have HN : Hid (n < 0 ∨ 1000000000000000000 < n) := .inr hn1
          clear hn0 hn1
          have l4 := row_range HR.out
          go_wp2_with (refine wpList_load_mid rfl 24 _ rfl b4 0 rfl _ _ l4 Tryd.underlying24 rfl infoRule ?_)
          clear l4
          refine (jump_bad3 K B S s r ta tn tc tz tu wa wn wc wz n _ (HT.out.keep HB.out) hu (HW.out.keep HB.out) HF.out HSUM.out HN.out).mono ?_
          rintro e9 w9 ⟨rfl, hb9⟩
          have HR := Lib.hid (HR.out.keep hb9 HR.out.lt)
          have HB := Lib.hid (HB.out.trans (hb9.mono HB.out.size))
          clear HDD
          clear hb9
          go_wp2_with fail
          refine (same_iface 1 _ (HL.out.keep HB.out) (by omega) (by decide)).mono ?_
          rintro e9 w9 ⟨rfl, hb9⟩
          have HR := Lib.hid (HR.out.keep hb9 HR.out.lt)
          have HB := Lib.hid (HB.out.trans (hb9.mono HB.out.size))
          clear hb9
          go_wp2_with fail
          refine (ints_eq3 none none 0 0 0 0 [] [] _ (nil_is _) (nil_is _) rfl).mono ?_
          rintro e9 w9 ⟨rfl, hb9⟩
          have HR := Lib.hid (HR.out.keep hb9 HR.out.lt)
          have HB := Lib.hid (HB.out.trans (hb9.mono HB.out.size))
          clear hb9
          go_upto_if 95 with fail
          go_step
          go_step
          go_step
          apply_assumption
          refine p3 K B S s r ta tn tc tz tu sa sn sc sz _ b4 w0 _ HL HT hu HS HE hb4 HR HB _ _ _ _ _ _ _ _ _ _ _ _ _ _ _ _ _ _ _ _ _ _ _ _ _ _ _ _ _ _ _ _ _ _ _ _ _ _ _ _ _ _ _ _ _ _ _ _ _ _ _ _ _ _ _ _ _ _ _ _ _ _ _ _ _ _ _ _ _ _ _ _ _ _ _ _ _ _ _ _ _ _ _ _ _ _ _ _ _ _ _ _ _ _ _ _ _ _ _ _ _ _ _ _ _ _ _ _ _ _ _ _ _ _ _ _ _ _ _ _ _ _ _ _ _ _ _ _ _ _ _ _ _ _ _ _ _ _ _ _ _ _ _ _ _ _ _ _ _ _ ?_
          intro u9 u11 u15 u19 u20 u21 u96 u97 u98 u99 u100 u101 u102 u103 u104 u105 u106 u107 u108 u109 u110 u111 u112 u113 u114 u115 u116 u117 u118 u119 u120 u121 u122 u123 u124 u125 u126 u127 u128 u129 u130 u131 u132 u133 u134 u135 u136 u137 u138 u139 u140 u141 u142 u143 u144 u145 u146 u147 u148 u149 u150 u151 w30 hb30
          exact hret hb30
        · have d1 : decide (1000000000000000000 < n) = false := decide_eq_false hn1
          obtain ⟨m, rfl⟩ := Int.eq_ofNat_of_zero_le (show 0 ≤ n by omega)
          have hm : m ≤ 1000000000000000000 := by omega
          clear hn0 hn1
          have l4 := row_range HR.out
          go_wp2_with (refine wpList_load_mid rfl 24 _ rfl b4 0 rfl _ _ l4 Tryd.underlying24 rfl infoRule ?_)
          clear l4
          refine (jump_ok K B S s r ta tn tc tz tu wa wn wc wz m _ (HT.out.keep HB.out) hu (HW.out.keep HB.out) HF.out hwc hnil HSUM.out hm).mono ?_
          rintro e9 w9 ⟨⟨ax, cx, rfl, hcx, hX, _⟩, hb9⟩
          have HR := Lib.hid (HR.out.keep hb9 HR.out.lt)
          have HB := Lib.hid (HB.out.trans (hb9.mono HB.out.size))
          have HDD := Lib.hid (HDD.out.keep hb9)
          have HX := Lib.hid hX
          clear hX hcx
          clear hb9
          go_wp2_with fail
          refine (same_nil _ (HL.out.keep HB.out)).mono ?_
          rintro e9 w9 ⟨rfl, hb9⟩
          have HR := Lib.hid (HR.out.keep hb9 HR.out.lt)
          have HB := Lib.hid (HB.out.trans (hb9.mono HB.out.size))
          have HDD := Lib.hid (HDD.out.keep hb9)
          have HX := Lib.hid (HX.out.keep hb9)
          clear hb9
          have l4 := row_range HR.out
          go_wp2_with (refine wpList_load_mid rfl 24 _ rfl b4 0 rfl _ _ l4 Tryd.underlying24 rfl infoRule ?_)
          clear l4
          refine (far_any K B S s r ta tn tc tz tu da dc (cof (wf tz) s (2 * r + 1)) wa wn wc wz m _ (HT.out.keep HB.out) HDD.out (fun i => wf_lt (st := s) (by omega) ((lfault_01 HL0.out).nat HT.out.len |> fun ⟨s', r', es, er, _, _, _, _, _, hz⟩ => fun z hz' => by have := hz z hz'; omega) _) (HW.out.keep HB.out) HF.out (sumR_of HSUM.out) hm).mono ?_
          rintro e9 w9 ⟨⟨ay, cy, rfl, hY⟩, hb9⟩
          have HR := Lib.hid (HR.out.keep hb9 HR.out.lt)
          have HB := Lib.hid (HB.out.trans (hb9.mono HB.out.size))
          have HX := Lib.hid (HX.out.keep hb9)
          have HY := Lib.hid hY
          clear hY HDD
          clear hb9
          go_wp2_with fail
          refine (ints_eq3 ax ay _ _ cx cy _ _ _ HX.out HY.out rfl).mono ?_
          rintro e9 w9 ⟨rfl, hb9⟩
          have HR := Lib.hid (HR.out.keep hb9 HR.out.lt)
          have HB := Lib.hid (HB.out.trans (hb9.mono HB.out.size))
          clear HX HY
          clear hb9
          go_upto_if 95 with fail
          go_step
          go_step
          go_step
          apply_assumption
          refine p3 K B S s r ta tn tc tz tu sa sn sc sz _ b4 w0 _ HL HT hu HS HE hb4 HR HB _ _ _ _ _ _ _ _ _ _ _ _ _ _ _ _ _ _ _ _ _ _ _ _ _ _ _ _ _ _ _ _ _ _ _ _ _ _ _ _ _ _ _ _ _ _ _ _ _ _ _ _ _ _ _ _ _ _ _ _ _ _ _ _ _ _ _ _ _ _ _ _ _ _ _ _ _ _ _ _ _ _ _ _ _ _ _ _ _ _ _ _ _ _ _ _ _ _ _ _ _ _ _ _ _ _ _ _ _ _ _ _ _ _ _ _ _ _ _ _ _ _ _ _ _ _ _ _ _ _ _ _ _ _ _ _ _ _ _ _ _ _ _ _ _ _ _ _ _ _ ?_
          intro u9 u11 u15 u19 u20 u21 u96 u97 u98 u99 u100 u101 u102 u103 u104 u105 u106 u107 u108 u109 u110 u111 u112 u113 u114 u115 u116 u117 u118 u119 u120 u121 u122 u123 u124 u125 u126 u127 u128 u129 u130 u131 u132 u133 u134 u135 u136 u137 u138 u139 u140 u141 u142 u143 u144 u145 u146 u147 u148 u149 u150 u151 w30 hb30
          exact hret hb30
      --}
    --}
  · --{D
    have e0 : (f == 0) = false := by rw [beq_eq_false_iff_ne]; exact hf0
    have HF0 := Lib.hid hf0
    clear hf0
    cases isb
    · have hz := trivial
      have l4 := row_range HR.out
      go_wp2_with (refine wpList_load_mid rfl 24 _ rfl b4 0 rfl _ _ l4 Tryd.underlying24 rfl infoRule ?_)
      clear l4
      refine (jump_bad1 K B S st ra ta tn tc tz tu wa wn wc wz n f _ (HT.out.keep HB.out) hu (HW.out.keep HB.out) HF.out HF0.out).mono ?_
      rintro e9 w9 ⟨rfl, hb9⟩
      have HR := Lib.hid (HR.out.keep hb9 HR.out.lt)
      have HB := Lib.hid (HB.out.trans (hb9.mono HB.out.size))
      clear HD
      clear hb9
      go_wp2_with fail
      refine (same_iface f _ (HL.out.keep HB.out) hbd HF0.out).mono ?_
      rintro e9 w9 ⟨rfl, hb9⟩
      have HR := Lib.hid (HR.out.keep hb9 HR.out.lt)
      have HB := Lib.hid (HB.out.trans (hb9.mono HB.out.size))
      clear hb9
      go_wp2_with fail
      refine (ints_eq3 none none 0 0 0 0 [] [] _ (nil_is _) (nil_is _) rfl).mono ?_
      rintro e9 w9 ⟨rfl, hb9⟩
      have HR := Lib.hid (HR.out.keep hb9 HR.out.lt)
      have HB := Lib.hid (HB.out.trans (hb9.mono HB.out.size))
      clear hb9
      go_upto_if 95 with fail
      go_step
      go_step
      go_step
      apply_assumption
      refine p3 K B S st ra ta tn tc tz tu sa sn sc sz _ b4 w0 _ HL HT hu HS HE hb4 HR HB _ _ _ _ _ _ _ _ _ _ _ _ _ _ _ _ _ _ _ _ _ _ _ _ _ _ _ _ _ _ _ _ _ _ _ _ _ _ _ _ _ _ _ _ _ _ _ _ _ _ _ _ _ _ _ _ _ _ _ _ _ _ _ _ _ _ _ _ _ _ _ _ _ _ _ _ _ _ _ _ _ _ _ _ _ _ _ _ _ _ _ _ _ _ _ _ _ _ _ _ _ _ _ _ _ _ _ _ _ _ _ _ _ _ _ _ _ _ _ _ _ _ _ _ _ _ _ _ _ _ _ _ _ _ _ _ _ _ _ _ _ _ _ _ _ _ _ _ _ _ ?_
      intro u9 u11 u15 u19 u20 u21 u96 u97 u98 u99 u100 u101 u102 u103 u104 u105 u106 u107 u108 u109 u110 u111 u112 u113 u114 u115 u116 u117 u118 u119 u120 u121 u122 u123 u124 u125 u126 u127 u128 u129 u130 u131 u132 u133 u134 u135 u136 u137 u138 u139 u140 u141 u142 u143 u144 u145 u146 u147 u148 u149 u150 u151 w30 hb30
      exact hret hb30
    · have hz := trivial
      have l4 := row_range HR.out
      go_wp2_with (refine wpList_load_mid rfl 24 _ rfl b4 0 rfl _ _ l4 Tryd.underlying24 rfl infoRule ?_)
      clear l4
      refine (jump_bad1 K B S st ra ta tn tc tz tu wa wn wc wz n f _ (HT.out.keep HB.out) hu (HW.out.keep HB.out) HF.out HF0.out).mono ?_
      rintro e9 w9 ⟨rfl, hb9⟩
      have HR := Lib.hid (HR.out.keep hb9 HR.out.lt)
      have HB := Lib.hid (HB.out.trans (hb9.mono HB.out.size))
      clear HD
      clear hb9
      go_wp2_with fail
      refine (same_iface f _ (HL.out.keep HB.out) hbd HF0.out).mono ?_
      rintro e9 w9 ⟨rfl, hb9⟩
      have HR := Lib.hid (HR.out.keep hb9 HR.out.lt)
      have HB := Lib.hid (HB.out.trans (hb9.mono HB.out.size))
      clear hb9
      go_wp2_with fail
      refine (ints_eq3 none none 0 0 0 0 [] [] _ (nil_is _) (nil_is _) rfl).mono ?_
      rintro e9 w9 ⟨rfl, hb9⟩
      have HR := Lib.hid (HR.out.keep hb9 HR.out.lt)
      have HB := Lib.hid (HB.out.trans (hb9.mono HB.out.size))
      clear hb9
      go_upto_if 95 with fail
      go_step
      go_step
      go_step
      apply_assumption
      refine p3 K B S st ra ta tn tc tz tu sa sn sc sz _ b4 w0 _ HL HT hu HS HE hb4 HR HB _ _ _ _ _ _ _ _ _ _ _ _ _ _ _ _ _ _ _ _ _ _ _ _ _ _ _ _ _ _ _ _ _ _ _ _ _ _ _ _ _ _ _ _ _ _ _ _ _ _ _ _ _ _ _ _ _ _ _ _ _ _ _ _ _ _ _ _ _ _ _ _ _ _ _ _ _ _ _ _ _ _ _ _ _ _ _ _ _ _ _ _ _ _ _ _ _ _ _ _ _ _ _ _ _ _ _ _ _ _ _ _ _ _ _ _ _ _ _ _ _ _ _ _ _ _ _ _ _ _ _ _ _ _ _ _ _ _ _ _ _ _ _ _ _ _ _ _ _ _ ?_
      intro u9 u11 u15 u19 u20 u21 u96 u97 u98 u99 u100 u101 u102 u103 u104 u105 u106 u107 u108 u109 u110 u111 u112 u113 u114 u115 u116 u117 u118 u119 u120 u121 u122 u123 u124 u125 u126 u127 u128 u129 u130 u131 u132 u133 u134 u135 u136 u137 u138 u139 u140 u141 u142 u143 u144 u145 u146 u147 u148 u149 u150 u151 w30 hb30
      exact hret hb30
    --}
set_option maxHeartbeats 8000000 in
set_option maxRecDepth 1000000 in
theorem sumsLinear_any (K B S st ra : Int) (ta : Option Addr) (tn tc : Nat) (tz : List Int) (tu : ByteArray) (wa : Option Addr) (wn wc : Nat) (wz : List Int) (n : Int) (sa : Option Addr) (sn sc : Nat) (sz : List Int) (w : World) (hL : Tld.Laid w) (hT : Ints.Is w ta tn tz) (hu : tu.size ≤ 9223372036854775807) (hW : Ints.Is w wa wn wz) (hwc : wn ≤ wc) (hnil : wa = none → wn = 0) (hS : Ints.Is w sa sn sz) :
    Calls Tryd.prog 5 #[.agg #[.int .i64 K, .int .i64 B, .int .i64 S, .int .i64 st, .int .i64 ra, .slice ta tn tc, .string tu], .slice wa wn wc, .int .i64 n, .slice sa sn sc] w fun e w' => e = .returned (.bool true) ∧ Below w.heap.size w w' := by
  have HL := Lib.hid hL
  have HT := Lib.hid hT
  have HW := Lib.hid hW
  have HS := Lib.hid hS
  clear hL hT hW hS
  obtain ⟨e, he⟩ : ∃ e, lfault K B S st ra tz tu = e := ⟨_, rfl⟩
  have HFA := Lib.hid (fun w2 (h2 : Below w.heap.size w w2) => fault2_any K B S st ra ta tn tc tz tu none 0 0 [] w2 (HT.out.keep h2) hu (nil_is _))
  rw [wfault_nil, he] at HFA
  unfold rulL at HFA
  have HE := Lib.hid he
  clear he
  go_enter Tryd.func5, Tryd.ntmps5
  go_upto_region 1 with fail
  obtain ⟨hR, hB⟩ := row_rule w K B S st ra ta tn tc tu
  have HR : Hid (Row (w.alloc (.cells #[.int .i64 K, .int .i64 B, .int .i64 S, .int .i64 st, .int .i64 ra, .slice ta tn tc, .string tu] 24)) w.heap.size 24 (rulL K B S st ra ta tn tc tu)) := hR
  have HB : Hid (Below w.heap.size w (w.alloc (.cells #[.int .i64 K, .int .i64 B, .int .i64 S, .int .i64 st, .int .i64 ra, .slice ta tn tc, .string tu] 24))) := hB
  clear hR hB
  generalize w.alloc (.cells #[.int .i64 K, .int .i64 B, .int .i64 S, .int .i64 st, .int .i64 ra, .slice ta tn tc, .string tu] 24) = w1 at *
  obtain ⟨b4, hb4⟩ : ∃ b4, b4 = w.heap.size := ⟨_, rfl⟩
  rw [← hb4] at HR ⊢
  have hle4 : w.heap.size ≤ b4 := by omega
  clear hb4
  have hb4 := hle4
  have l4 := row_range HR.out
  go_wp2_with (refine wpList_load_mid rfl 24 _ rfl b4 0 rfl _ _ l4 Tryd.underlying24 rfl infoRule ?_)
  clear l4
  refine (HFA.out _ HB.out).mono ?_
  rintro e9 w9 ⟨rfl, hb9⟩
  have HR := Lib.hid (HR.out.keep hb9 HR.out.lt)
  have HB := Lib.hid (HB.out.trans (hb9.mono HB.out.size))
  clear HFA
  clear hb9
  rcases lfault_cases (K := K) (B := B) (S := S) (st := st) (ra := ra) (tz := tz) (tu := tu) with h0 | h0
  · --{A
    obtain rfl : e = 0 := by rw [← HE.out, h0]
    obtain ⟨s, r, rfl, rfl, h2, h4, hr5, htn, htl, htz⟩ := (lfault_01 h0).nat HT.out.len
    have HF0 := Lib.hid h0
    clear htn htl htz h0
    have l4 := row_range HR.out
    go_wp2_with (refine wpList_load_mid rfl 24 _ rfl b4 0 rfl _ _ l4 Tryd.underlying24 rfl infoRule ?_)
    clear l4
    refine (linear_ok K B S s r ta tn tc tz tu _ (HT.out.keep HB.out) hu HF0.out).mono ?_
    rintro e9 w9 ⟨hor, hb9⟩
    have HR := Lib.hid (HR.out.keep hb9 HR.out.lt)
    have HB := Lib.hid (HB.out.trans (hb9.mono HB.out.size))
    clear hb9
    rcases hor with ⟨g, rfl, hC, hs⟩ | ⟨rfl, hs⟩
    · --{C
      have HC := Lib.hid hC
      have HSM := Lib.hid hs
      clear hC hs
      have l4 := row_range HR.out
      go_wp2_with (refine wpList_load_mid rfl 24 _ rfl b4 0 rfl _ _ l4 Tryd.underlying24 rfl infoRule ?_)
      clear l4
      refine (linear2_any K B S s r ta tn tc tz tu _ (HT.out.keep HB.out) HF0.out).mono ?_
      rintro e9 w9 ⟨hor2, hb9⟩
      have HR := Lib.hid (HR.out.keep hb9 HR.out.lt)
      have HB := Lib.hid (HB.out.trans (hb9.mono HB.out.size))
      have HC := Lib.hid (HC.out.keep hb9)
      clear hb9
      rcases hor2 with ⟨ad, cd, rfl, hD, _⟩ | ⟨rfl, hno⟩
      · have HDD := Lib.hid hD
        clear hD
        go_wp2_with fail
        refine (same_nil _ (HL.out.keep HB.out)).mono ?_
        rintro e9 w9 ⟨rfl, hb9⟩
        have HR := Lib.hid (HR.out.keep hb9 HR.out.lt)
        have HB := Lib.hid (HB.out.trans (hb9.mono HB.out.size))
        have HC := Lib.hid (HC.out.keep hb9)
        have HDD := Lib.hid (HDD.out.keep hb9)
        clear hb9
        go_wp2_with fail
        refine (ints_eq3 _ ad _ _ _ cd _ _ _ HC.out HDD.out rfl).mono ?_
        rintro e9 w9 ⟨rfl, hb9⟩
        have HR := Lib.hid (HR.out.keep hb9 HR.out.lt)
        have HB := Lib.hid (HB.out.trans (hb9.mono HB.out.size))
        have HC := Lib.hid (HC.out.keep hb9)
        have HDD := Lib.hid (HDD.out.keep hb9)
        clear hb9
        have HD : Hid (Nums K B S s r tz tu w9 ad (2 * r + 1) true) := by
          show Nums K B S s r tz tu w9 ad (2 * r + 1) true
          unfold Nums
          rw [if_pos rfl, Int.toNat_natCast, Int.toNat_natCast]
          exact ⟨HF0.out, rfl, HDD.out, HSM.out⟩
        clear HC HDD
        go_upto_if 50 with fail
        go_step
        go_step
        go_step
        apply_assumption
        refine p2 K B S s r ta tn tc tz tu wa wn wc wz n _ _ _ _ sa sn sc sz _ b4 w _ HL HT hu HS HE hb4 HW hwc hnil HD HR HB _ _ _ _ _ _ _ _ _ _ _ _ _ _ _ _ _ _ _ _ _ _ _ _ _ _ _ _ _ _ _ _ _ _ _ _ _ _ _ _ _ _ _ _ _ _ _ _ _ _ _ _ _ _ _ _ _ _ _ _ _ _ _ _ _ _ _ _ _ _ _ _ _ _ _ _ _ _ _ _ _ _ _ _ _ _ _ _ _ _ _ _ _ _ _ _ _ _ _ _ _ _ _ _ _ _ _ _ _ _ _ _ _ _ _ _ _ _ _ _ _ _ _ _ _ _ _ _ _ _ _ _ _ _ _ _ _ _ _ _ _ _ _ _ _ _ ?_
        intro u9 u11 u14 u15 u16 u17 u18 u19 u20 u21 u51 u52 u53 u54 u55 u56 u57 u58 u59 u60 u61 u62 u63 u64 u65 u66 u67 u68 u69 u70 u71 u72 u73 u74 u75 u76 u77 u78 u79 u80 u81 u82 u83 u84 u85 u86 u87 u88 u89 u90 u91 u92 u93 u94 u95 u96 u97 u98 u99 u100 u101 u102 u103 u104 u105 u106 u107 u108 u109 u110 u111 u112 u113 u114 u115 u116 u117 u118 u119 u120 u121 u122 u123 u124 u125 u126 u127 u128 u129 u130 u131 u132 u133 u134 u135 u136 u137 u138 u139 u140 u141 u142 u143 u144 u145 u146 u147 u148 u149 u150 u151 w30 hb30
        go_ret
        exact ⟨rfl, hb30⟩
      · exact absurd HSM.out hno
      --}
    · --{D
      have HSM := Lib.hid hs
      clear hs
      have l4 := row_range HR.out
      go_wp2_with (refine wpList_load_mid rfl 24 _ rfl b4 0 rfl _ _ l4 Tryd.underlying24 rfl infoRule ?_)
      clear l4
      refine (linear2_any K B S s r ta tn tc tz tu _ (HT.out.keep HB.out) HF0.out).mono ?_
      rintro e9 w9 ⟨hor2, hb9⟩
      have HR := Lib.hid (HR.out.keep hb9 HR.out.lt)
      have HB := Lib.hid (HB.out.trans (hb9.mono HB.out.size))
      clear hb9
      rcases hor2 with ⟨ad, cd, rfl, hD, hyes⟩ | ⟨rfl, hno⟩
      · exact absurd hyes HSM.out
      · clear hno
        go_wp2_with fail
        refine (same_iface 5 _ (HL.out.keep HB.out) (by omega) (by decide)).mono ?_
        rintro e9 w9 ⟨rfl, hb9⟩
        have HR := Lib.hid (HR.out.keep hb9 HR.out.lt)
        have HB := Lib.hid (HB.out.trans (hb9.mono HB.out.size))
        clear hb9
        go_wp2_with fail
        refine (ints_eq3 none none 0 0 0 0 [] [] _ (nil_is _) (nil_is _) rfl).mono ?_
        rintro e9 w9 ⟨rfl, hb9⟩
        have HR := Lib.hid (HR.out.keep hb9 HR.out.lt)
        have HB := Lib.hid (HB.out.trans (hb9.mono HB.out.size))
        clear hb9
        have HD : Hid (Nums K B S s r tz tu w9 none 0 false) := by
          show Nums K B S s r tz tu w9 none 0 false
          unfold Nums
          rw [if_neg (by decide), Int.toNat_natCast, Int.toNat_natCast]
          exact fun _ => HSM.out
        go_upto_if 50 with fail
        go_step
        go_step
        go_step
        apply_assumption
        refine p2 K B S s r ta tn tc tz tu wa wn wc wz n _ _ _ _ sa sn sc sz _ b4 w _ HL HT hu HS HE hb4 HW hwc hnil HD HR HB _ _ _ _ _ _ _ _ _ _ _ _ _ _ _ _ _ _ _ _ _ _ _ _ _ _ _ _ _ _ _ _ _ _ _ _ _ _ _ _ _ _ _ _ _ _ _ _ _ _ _ _ _ _ _ _ _ _ _ _ _ _ _ _ _ _ _ _ _ _ _ _ _ _ _ _ _ _ _ _ _ _ _ _ _ _ _ _ _ _ _ _ _ _ _ _ _ _ _ _ _ _ _ _ _ _ _ _ _ _ _ _ _ _ _ _ _ _ _ _ _ _ _ _ _ _ _ _ _ _ _ _ _ _ _ _ _ _ _ _ _ _ _ _ _ _ ?_
        intro u9 u11 u14 u15 u16 u17 u18 u19 u20 u21 u51 u52 u53 u54 u55 u56 u57 u58 u59 u60 u61 u62 u63 u64 u65 u66 u67 u68 u69 u70 u71 u72 u73 u74 u75 u76 u77 u78 u79 u80 u81 u82 u83 u84 u85 u86 u87 u88 u89 u90 u91 u92 u93 u94 u95 u96 u97 u98 u99 u100 u101 u102 u103 u104 u105 u106 u107 u108 u109 u110 u111 u112 u113 u114 u115 u116 u117 u118 u119 u120 u121 u122 u123 u124 u125 u126 u127 u128 u129 u130 u131 u132 u133 u134 u135 u136 u137 u138 u139 u140 u141 u142 u143 u144 u145 u146 u147 u148 u149 u150 u151 w30 hb30
        go_ret
        exact ⟨rfl, hb30⟩
      --}
    --}
  · --{B
    obtain rfl : e = 1 := by rw [← HE.out, h0]
    have HF0 := Lib.hid h0
    clear h0
    have l4 := row_range HR.out
    go_wp2_with (refine wpList_load_mid rfl 24 _ rfl b4 0 rfl _ _ l4 Tryd.underlying24 rfl infoRule ?_)
    clear l4
    refine (linear_bad K B S st ra ta tn tc tz tu _ (HT.out.keep HB.out) hu HF0.out).mono ?_
    rintro e9 w9 ⟨rfl, hb9⟩
    have HR := Lib.hid (HR.out.keep hb9 HR.out.lt)
    have HB := Lib.hid (HB.out.trans (hb9.mono HB.out.size))
    clear hb9
    go_wp2_with fail
    refine (same_iface 1 _ (HL.out.keep HB.out) (by omega) (by decide)).mono ?_
    rintro e9 w9 ⟨rfl, hb9⟩
    have HR := Lib.hid (HR.out.keep hb9 HR.out.lt)
    have HB := Lib.hid (HB.out.trans (hb9.mono HB.out.size))
    clear hb9
    go_wp2_with fail
    refine (ints_eq3 none none 0 0 0 0 [] [] _ (nil_is _) (nil_is _) rfl).mono ?_
    rintro e9 w9 ⟨rfl, hb9⟩
    have HR := Lib.hid (HR.out.keep hb9 HR.out.lt)
    have HB := Lib.hid (HB.out.trans (hb9.mono HB.out.size))
    clear hb9
    have HD : Hid (Nums K B S st ra tz tu w9 none 0 false) := by
      show Nums K B S st ra tz tu w9 none 0 false
      unfold Nums
      rw [if_neg (by decide)]
      exact fun h => by rw [HF0.out] at h; cases h
    go_upto_if 50 with fail
    go_step
    go_step
    go_step
    apply_assumption
    refine p2 K B S st ra ta tn tc tz tu wa wn wc wz n _ _ _ _ sa sn sc sz _ b4 w _ HL HT hu HS HE hb4 HW hwc hnil HD HR HB _ _ _ _ _ _ _ _ _ _ _ _ _ _ _ _ _ _ _ _ _ _ _ _ _ _ _ _ _ _ _ _ _ _ _ _ _ _ _ _ _ _ _ _ _ _ _ _ _ _ _ _ _ _ _ _ _ _ _ _ _ _ _ _ _ _ _ _ _ _ _ _ _ _ _ _ _ _ _ _ _ _ _ _ _ _ _ _ _ _ _ _ _ _ _ _ _ _ _ _ _ _ _ _ _ _ _ _ _ _ _ _ _ _ _ _ _ _ _ _ _ _ _ _ _ _ _ _ _ _ _ _ _ _ _ _ _ _ _ _ _ _ _ _ _ _ ?_
    intro u9 u11 u14 u15 u16 u17 u18 u19 u20 u21 u51 u52 u53 u54 u55 u56 u57 u58 u59 u60 u61 u62 u63 u64 u65 u66 u67 u68 u69 u70 u71 u72 u73 u74 u75 u76 u77 u78 u79 u80 u81 u82 u83 u84 u85 u86 u87 u88 u89 u90 u91 u92 u93 u94 u95 u96 u97 u98 u99 u100 u101 u102 u103 u104 u105 u106 u107 u108 u109 u110 u111 u112 u113 u114 u115 u116 u117 u118 u119 u120 u121 u122 u123 u124 u125 u126 u127 u128 u129 u130 u131 u132 u133 u134 u135 u136 u137 u138 u139 u140 u141 u142 u143 u144 u145 u146 u147 u148 u149 u150 u151 w30 hb30
    go_ret
    exact ⟨rfl, hb30⟩
    --}
end Ln
end Go.Proofs.YtahhhbdnhimbfaaDoor
