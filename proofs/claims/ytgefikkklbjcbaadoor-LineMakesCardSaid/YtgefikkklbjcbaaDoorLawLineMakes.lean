/- THE LAW LineMakes: its walk, out of its callees' contracts. -/
import Derived.Test.YtgefikkklbjcbaaDoorLnFt
import Derived.Test.YtgefikkklbjcbaaDoorLnB
import Derived.Test.YtgefikkklbjcbaaDoorLnLw
import Derived.Test.YtgefikkklbjcbaaDoorSame
namespace Go.Proofs.YtgefikkklbjcbaaDoor
set_option linter.unusedSimpArgs false
set_option linter.unusedVariables false
open Go.RowKit
namespace Ln
open Tld Mem

/-- Does the code begin with region n? -/
def heads (n : Nat) : Code → Bool
  | .region i _ _ => i == n
  | .seq a _ => heads n a
  | _ => false
/-- The code from region n on, all that follows it. -/
def frs (n : Nat) : Code → Option Code
  | .seq a b => match heads n a with
    | true => some (.seq a b)
    | false => match frs n a with
      | some c => some c
      | none => frs n b
  | .block _ c => frs n c
  | .scope c => frs n c
  | .loop c => frs n c
  | _ => none
theorem wfault_nil {K B S st ra : Int} {tz : List Int} {tu : ByteArray} : wfault K B S st ra tz tu [] = lfault K B S st ra tz tu := by
  classical
  by_cases h : Ok K B S st ra tz tu
  · rw [wfault_yes h, lfault_ok h]; rfl
  · rw [wfault_no h, lfault_no h]
theorem sameNil_any (w : World) :
    Calls Tryd.prog 18 #[.agg noRul.toArray, .agg noRul.toArray] w fun e w' => e = .returned (.bool true) ∧ Below w.heap.size w w' :=
  same2_any 0 0 0 0 0 none none 0 0 0 0 [] ⟨#[]⟩ w (Ints.Is.nil w) (Ints.Is.nil w)
/-- What another radius comes to. -/
inductive Wide (K B S st ra : Int) (tz : List Int) (tu : ByteArray) (q e : Int) : Prop where
  | bad : e = 1 → lfault K B S st ra tz tu = 1 → Wide K B S st ra tz tu q e
  | low : e = 0 → lfault K B S st ra tz tu = 0 → q < ra → Wide K B S st ra tz tu q e
  | far : e = 0 → lfault K B S st ra tz tu = 0 → ra ≤ q → 20 ≤ q → Wide K B S st ra tz tu q e
  | big (s qn : Nat) : e = 0 → lfault K B S st ra tz tu = 0 → ra ≤ q → q < 20 → st = s → q = qn → 4096 < s ^ (2 * qn + 1) → Wide K B S st ra tz tu q e
  | ok (s r qn : Nat) : e = 0 → lfault K B S st ra tz tu = 0 → r ≤ qn → qn < 20 → st = s → ra = r → q = qn → s ^ (2 * qn + 1) ≤ 4096 → Wide K B S st ra tz tu q e
theorem wide_of {K B S st ra : Int} {tz : List Int} {tu : ByteArray} {q : Int} : Wide K B S st ra tz tu q (lfault K B S st ra tz tu) := by
  classical
  by_cases h : Ok K B S st ra tz tu
  · have h0 := lfault_ok h
    obtain ⟨s, r, rfl, rfl, h2, h4, hr5, _, _, _⟩ := h.nat (tn := tz.length) rfl
    rw [h0]
    by_cases h1 : q < (r : Int)
    · exact .low rfl h0 h1
    · obtain ⟨qn, rfl⟩ := Int.eq_ofNat_of_zero_le (show 0 ≤ q by omega)
      by_cases h3 : 20 ≤ (qn : Int)
      · exact .far rfl h0 (by omega) h3
      · by_cases h5 : 4096 < s ^ (2 * qn + 1)
        · exact .big s qn rfl h0 (by omega) (by omega) rfl rfl h5
        · exact .ok s r qn rfl h0 (by omega) (by omega) rfl rfl rfl (by omega)
  · rw [lfault_no h]
    exact .bad rfl (lfault_no h)
theorem far_pow {K B S st ra : Int} {tz : List Int} {tu : ByteArray} {q : Int} (h : Ok K B S st ra tz tu) (hq : 20 ≤ q) : 4096 < st.toNat ^ (2 * q.toNat + 1) := by
  have h2 := h.st2
  have h6 : 2 ^ 41 ≤ st.toNat ^ (2 * q.toNat + 1) := Nat.le_trans (Nat.pow_le_pow_right (by omega) (show 41 ≤ 2 * q.toNat + 1 by omega)) (Nat.pow_le_pow_left (by omega) _)
  omega
set_option maxHeartbeats 8000000 in
set_option maxRecDepth 1000000 in
theorem half2 (K B S st ra : Int) (ta : Option Addr) (tn tc : Nat) (tz : List Int) (tu : ByteArray) (q e : Int) (b3 b10 b13 : Nat) (V10 V13 : List Value) (w0 w : World)
    (HL : Hid (Tld.Laid w0)) (HT : Hid (Ints.Is w0 ta tn tz)) (hu : tu.size ≤ 9223372036854775807) (hW : Wide K B S st ra tz tu q e) (HB : Hid (Below w0.heap.size w0 w)) (HR3 : Hid (Row w b3 24 (rulL K B S st ra ta tn tc tu))) (HR10 : Hid (Row w b10 24 V10)) (HR13 : Hid (Row w b13 24 V13))
    (HV10 : Hid (V10.length = 7)) (HV13 : Hid (V13.length = 7)) (hb10 : w0.heap.size ≤ b10) (hb13 : w0.heap.size ≤ b13) (h310 : b3 < b10) (h1013 : b10 < b13)
    (c0 c1 c4 c5 c6 c8 c9 c11 c12 c14 c15 c16 c17 c18 c19 c20 c21 c22 c23 c24 c25 c26 c27 c28 c29 c30 c31 c32 c33 c34 c35 c36 c37 c38 c39 c40 c41 c42 c43 c44 c45 c46 c47 c48 c49 c50 c51 c52 c53 c54 c55 c56 c57 c58 c59 c60 c61 c62 c63 c64 c65 c66 c67 c68 c69 c70 c71 c72 c73 c74 c75 c76 c77 c78 c79 c80 c81 c82 c83 c84 c85 c86 c87 c88 c89 c90 c91 c92 c93 c94 c95 c96 c97 c98 c99 c100 c101 c102 c103 c104 c105 c106 c107 : Value) (Q : Exit → Act → World → Prop)
    (hret : ∀ {u7 u11 u12 u14 u15 u68 u69 u70 u71 u72 u73 u74 u75 u76 u77 u78 u79 u80 u81 u82 u83 u84 u85 u86 u87 u88 u89 u90 u91 u92 u93 u94 u95 u96 u97 u98 u99 u100 u101 u102 u103 u104 u105 u106 u107 : Value} {w' : World}, Below w0.heap.size w0 w' → Q .ret ⟨#[c0, c1, .int .i64 q, .pointer (some ⟨b3, 0, none⟩), c4, c5, .bool true, u7, c8, c9, .pointer (some ⟨b10, 0, none⟩), u11, u12, .pointer (some ⟨b13, 0, none⟩), u14, u15, c16, c17, c18, c19, c20, c21, c22, c23, c24, c25, c26, c27, c28, c29, c30, c31, c32, c33, c34, c35, c36, c37, c38, c39, c40, c41, c42, c43, c44, c45, c46, c47, c48, c49, c50, c51, c52, c53, c54, c55, c56, c57, c58, c59, c60, c61, c62, c63, c64, c65, c66, c67, u68, u69, u70, u71, u72, u73, u74, u75, u76, u77, u78, u79, u80, u81, u82, u83, u84, u85, u86, u87, u88, u89, u90, u91, u92, u93, u94, u95, u96, u97, u98, u99, u100, u101, u102, u103, u104, u105, u106, u107], []⟩ w')
    : Code.wp Tryd.prog ((frs 19 (Tryd.f5.body.getD .skip)).getD .skip) Q ⟨#[c0, c1, .int .i64 q, .pointer (some ⟨b3, 0, none⟩), c4, c5, c6, .int .i64 e, c8, c9, .pointer (some ⟨b10, 0, none⟩), c11, c12, .pointer (some ⟨b13, 0, none⟩), c14, c15, c16, c17, c18, c19, c20, c21, c22, c23, c24, c25, c26, c27, c28, c29, c30, c31, c32, c33, c34, c35, c36, c37, c38, c39, c40, c41, c42, c43, c44, c45, c46, c47, c48, c49, c50, c51, c52, c53, c54, c55, c56, c57, c58, c59, c60, c61, c62, c63, c64, c65, c66, c67, c68, c69, c70, c71, c72, c73, c74, c75, c76, c77, c78, c79, c80, c81, c82, c83, c84, c85, c86, c87, c88, c89, c90, c91, c92, c93, c94, c95, c96, c97, c98, c99, c100, c101, c102, c103, c104, c105, c106, c107], []⟩ w := by
  conv => arg 2; whnf
  rcases hW with ⟨rfl, hl⟩ | ⟨rfl, hl0, hqr⟩ | ⟨rfl, hl0, hqr, hq20⟩ | ⟨s, qn, rfl, hl0, hqr, hq20, rfl, rfl, hbig⟩ | ⟨s, r, qn, rfl, hl0, hrq, hq20, rfl, rfl, rfl, hN4⟩
  · have hdf : dfault K B S st ra tz tu q = 1 := by unfold dfault; rw [if_pos (by rw [hl]; decide), hl]
    have f3 := HR3.out.cell 3
    have f4 := HR3.out.cell 4
    unfold rulL at f3 f4
    dsimp only [List.getElem?_cons_succ, List.getElem?_cons_zero] at f3 f4
    have l3 := row_range HR3.out
    go_wp2_with (refine wpList_load_mid rfl 24 _ rfl b3 0 rfl _ _ l3 Tryd.underlying24 rfl infoRule ?_)
    clear l3 f3 f4
    refine (widen_bad K B S st ra ta tn tc tz tu q 1 _ (HT.out.keep HB.out) hu hdf (by decide)).mono ?_
    rintro e0 w2 ⟨rfl, hb9⟩
    have HR3 := Lib.hid (HR3.out.keep hb9 HR3.out.lt)
    have HR10 := Lib.hid (HR10.out.keep hb9 HR10.out.lt)
    have HR13 := Lib.hid (HR13.out.keep hb9 HR13.out.lt)
    have HB := Lib.hid (HB.out.trans (hb9.mono HB.out.size))
    clear hb9
    have q10 : (noRul).length = V10.length := by rw [HV10.out]; rfl
    go_upto_region 28 with (refine Ops.wpList_store_arr rfl 24 _ _ rfl (b10) rfl 24 _ (noRul) rfl HR10.out q10 infoRule noRul_one ?_; intro w9 hrow9 hon9)
    clear q10
    have HR3 := Lib.hid (HR3.out.other hon9 (by omega))
    have HR13 := Lib.hid (HR13.out.other hon9 (by omega))
    have HR10 := Lib.hid hrow9
    have HB := Lib.hid (HB.out.trans (hon9.below (by omega)))
    clear hon9 hrow9
    go_wp2_with fail
    refine (same_iface 1 _ (HL.out.keep HB.out) (by omega) (by decide)).mono ?_
    rintro e0 w3 ⟨rfl, hb9⟩
    have HR3 := Lib.hid (HR3.out.keep hb9 HR3.out.lt)
    have HR10 := Lib.hid (HR10.out.keep hb9 HR10.out.lt)
    have HR13 := Lib.hid (HR13.out.keep hb9 HR13.out.lt)
    have HB := Lib.hid (HB.out.trans (hb9.mono HB.out.size))
    clear hb9
    have q13 : noRul.length = V13.length := by rw [HV13.out]; rfl
    go_upto_region 30 with (refine Ops.wpList_store_arr rfl 24 _ _ rfl (b13) rfl 24 _ (noRul) rfl HR13.out q13 infoRule noRul_one ?_; intro w9 hrow9 hon9)
    clear q13
    have HR3 := Lib.hid (HR3.out.other hon9 (by omega))
    have HR10 := Lib.hid (HR10.out.other hon9 (by omega))
    have HR13 := Lib.hid hrow9
    have HB := Lib.hid (HB.out.trans (hon9.below (by omega)))
    clear hon9 hrow9
    have l10 := row_range HR10.out
    have l13 := row_range HR13.out
    go_wp2_with (first | (refine wpList_load_mid rfl 24 _ rfl b10 0 rfl _ _ l10 Tryd.underlying24 rfl infoRule ?_) | (refine wpList_load_mid rfl 24 _ rfl b13 0 rfl _ _ l13 Tryd.underlying24 rfl infoRule ?_))
    clear l10 l13
    refine (sameNil_any _).mono ?_
    rintro e0 w4 ⟨rfl, hb9⟩
    have HR3 := Lib.hid (HR3.out.keep hb9 HR3.out.lt)
    have HR10 := Lib.hid (HR10.out.keep hb9 HR10.out.lt)
    have HR13 := Lib.hid (HR13.out.keep hb9 HR13.out.lt)
    have HB := Lib.hid (HB.out.trans (hb9.mono HB.out.size))
    clear hb9
    go_wp2_with fail
    exact HB.out
  · have hdf : dfault K B S st ra tz tu q = 1 := by unfold dfault; rw [if_neg (by simp [hl0]), if_pos hqr]
    have dqr : decide (q < ra) = true := decide_eq_true hqr
    have f3 := HR3.out.cell 3
    have f4 := HR3.out.cell 4
    unfold rulL at f3 f4
    dsimp only [List.getElem?_cons_succ, List.getElem?_cons_zero] at f3 f4
    have l3 := row_range HR3.out
    go_wp2_with (refine wpList_load_mid rfl 24 _ rfl b3 0 rfl _ _ l3 Tryd.underlying24 rfl infoRule ?_)
    clear l3 f3 f4
    refine (widen_bad K B S st ra ta tn tc tz tu q 1 _ (HT.out.keep HB.out) hu hdf (by decide)).mono ?_
    rintro e0 w5 ⟨rfl, hb9⟩
    have HR3 := Lib.hid (HR3.out.keep hb9 HR3.out.lt)
    have HR10 := Lib.hid (HR10.out.keep hb9 HR10.out.lt)
    have HR13 := Lib.hid (HR13.out.keep hb9 HR13.out.lt)
    have HB := Lib.hid (HB.out.trans (hb9.mono HB.out.size))
    clear hb9
    have q10 : (noRul).length = V10.length := by rw [HV10.out]; rfl
    go_upto_region 28 with (refine Ops.wpList_store_arr rfl 24 _ _ rfl (b10) rfl 24 _ (noRul) rfl HR10.out q10 infoRule noRul_one ?_; intro w9 hrow9 hon9)
    clear q10
    have HR3 := Lib.hid (HR3.out.other hon9 (by omega))
    have HR13 := Lib.hid (HR13.out.other hon9 (by omega))
    have HR10 := Lib.hid hrow9
    have HB := Lib.hid (HB.out.trans (hon9.below (by omega)))
    clear hon9 hrow9
    go_wp2_with fail
    refine (same_iface 1 _ (HL.out.keep HB.out) (by omega) (by decide)).mono ?_
    rintro e0 w6 ⟨rfl, hb9⟩
    have HR3 := Lib.hid (HR3.out.keep hb9 HR3.out.lt)
    have HR10 := Lib.hid (HR10.out.keep hb9 HR10.out.lt)
    have HR13 := Lib.hid (HR13.out.keep hb9 HR13.out.lt)
    have HB := Lib.hid (HB.out.trans (hb9.mono HB.out.size))
    clear hb9
    have q13 : noRul.length = V13.length := by rw [HV13.out]; rfl
    go_upto_region 30 with (refine Ops.wpList_store_arr rfl 24 _ _ rfl (b13) rfl 24 _ (noRul) rfl HR13.out q13 infoRule noRul_one ?_; intro w9 hrow9 hon9)
    clear q13
    have HR3 := Lib.hid (HR3.out.other hon9 (by omega))
    have HR10 := Lib.hid (HR10.out.other hon9 (by omega))
    have HR13 := Lib.hid hrow9
    have HB := Lib.hid (HB.out.trans (hon9.below (by omega)))
    clear hon9 hrow9
    have l10 := row_range HR10.out
    have l13 := row_range HR13.out
    go_wp2_with (first | (refine wpList_load_mid rfl 24 _ rfl b10 0 rfl _ _ l10 Tryd.underlying24 rfl infoRule ?_) | (refine wpList_load_mid rfl 24 _ rfl b13 0 rfl _ _ l13 Tryd.underlying24 rfl infoRule ?_))
    clear l10 l13
    refine (sameNil_any _).mono ?_
    rintro e0 w7 ⟨rfl, hb9⟩
    have HR3 := Lib.hid (HR3.out.keep hb9 HR3.out.lt)
    have HR10 := Lib.hid (HR10.out.keep hb9 HR10.out.lt)
    have HR13 := Lib.hid (HR13.out.keep hb9 HR13.out.lt)
    have HB := Lib.hid (HB.out.trans (hb9.mono HB.out.size))
    clear hb9
    go_wp2_with fail
    exact HB.out
  · have hdf : dfault K B S st ra tz tu q = 4 := by
      have h20 := far_pow (lfault_01 hl0) hq20
      unfold dfault; rw [if_neg (by simp [hl0]), if_neg (by omega), if_pos (.inr h20)]
    have dqr : decide (q < ra) = false := decide_eq_false (by omega)
    have nqr : ¬ q < ra := by omega
    have dq20 : decide (q < 20) = false := decide_eq_false (by omega)
    have nq20 : ¬ q < 20 := by omega
    have f3 := HR3.out.cell 3
    have f4 := HR3.out.cell 4
    unfold rulL at f3 f4
    dsimp only [List.getElem?_cons_succ, List.getElem?_cons_zero] at f3 f4
    have l3 := row_range HR3.out
    go_wp2_with (refine wpList_load_mid rfl 24 _ rfl b3 0 rfl _ _ l3 Tryd.underlying24 rfl infoRule ?_)
    clear l3 f3 f4
    refine (widen_bad K B S st ra ta tn tc tz tu q 4 _ (HT.out.keep HB.out) hu hdf (by decide)).mono ?_
    rintro e0 w8 ⟨rfl, hb9⟩
    have HR3 := Lib.hid (HR3.out.keep hb9 HR3.out.lt)
    have HR10 := Lib.hid (HR10.out.keep hb9 HR10.out.lt)
    have HR13 := Lib.hid (HR13.out.keep hb9 HR13.out.lt)
    have HB := Lib.hid (HB.out.trans (hb9.mono HB.out.size))
    clear hb9
    have q10 : (noRul).length = V10.length := by rw [HV10.out]; rfl
    go_upto_region 28 with (refine Ops.wpList_store_arr rfl 24 _ _ rfl (b10) rfl 24 _ (noRul) rfl HR10.out q10 infoRule noRul_one ?_; intro w9 hrow9 hon9)
    clear q10
    have HR3 := Lib.hid (HR3.out.other hon9 (by omega))
    have HR13 := Lib.hid (HR13.out.other hon9 (by omega))
    have HR10 := Lib.hid hrow9
    have HB := Lib.hid (HB.out.trans (hon9.below (by omega)))
    clear hon9 hrow9
    go_wp2_with fail
    refine (same_iface 4 _ (HL.out.keep HB.out) (by omega) (by decide)).mono ?_
    rintro e0 w9 ⟨rfl, hb9⟩
    have HR3 := Lib.hid (HR3.out.keep hb9 HR3.out.lt)
    have HR10 := Lib.hid (HR10.out.keep hb9 HR10.out.lt)
    have HR13 := Lib.hid (HR13.out.keep hb9 HR13.out.lt)
    have HB := Lib.hid (HB.out.trans (hb9.mono HB.out.size))
    clear hb9
    have q13 : noRul.length = V13.length := by rw [HV13.out]; rfl
    go_upto_region 30 with (refine Ops.wpList_store_arr rfl 24 _ _ rfl (b13) rfl 24 _ (noRul) rfl HR13.out q13 infoRule noRul_one ?_; intro w9 hrow9 hon9)
    clear q13
    have HR3 := Lib.hid (HR3.out.other hon9 (by omega))
    have HR10 := Lib.hid (HR10.out.other hon9 (by omega))
    have HR13 := Lib.hid hrow9
    have HB := Lib.hid (HB.out.trans (hon9.below (by omega)))
    clear hon9 hrow9
    have l10 := row_range HR10.out
    have l13 := row_range HR13.out
    go_wp2_with (first | (refine wpList_load_mid rfl 24 _ rfl b10 0 rfl _ _ l10 Tryd.underlying24 rfl infoRule ?_) | (refine wpList_load_mid rfl 24 _ rfl b13 0 rfl _ _ l13 Tryd.underlying24 rfl infoRule ?_))
    clear l10 l13
    refine (sameNil_any _).mono ?_
    rintro e0 w10 ⟨rfl, hb9⟩
    have HR3 := Lib.hid (HR3.out.keep hb9 HR3.out.lt)
    have HR10 := Lib.hid (HR10.out.keep hb9 HR10.out.lt)
    have HR13 := Lib.hid (HR13.out.keep hb9 HR13.out.lt)
    have HB := Lib.hid (HB.out.trans (hb9.mono HB.out.size))
    clear hb9
    go_wp2_with fail
    exact HB.out
  · have hdf : dfault K B S s ra tz tu qn = 4 := by
      unfold dfault; rw [if_neg (by simp [hl0]), if_neg (by omega), if_pos (.inr (by rw [Int.toNat_natCast, Int.toNat_natCast]; exact hbig))]
    have hs5 : s5 s qn = 5000 := by unfold s5; rw [if_pos hbig]
    have h2 : 2 ≤ s := by have := (lfault_01 hl0).st2; omega
    have h4 : s ≤ 4 := by have := (lfault_01 hl0).st4; omega
    have dqr : decide ((qn : Int) < ra) = false := decide_eq_false (by omega)
    have nqr : ¬ (qn : Int) < ra := by omega
    have dq20 : decide ((qn : Int) < 20) = true := decide_eq_true (by omega)
    have f3 := HR3.out.cell 3
    have f4 := HR3.out.cell 4
    unfold rulL at f3 f4
    dsimp only [List.getElem?_cons_succ, List.getElem?_cons_zero] at f3 f4
    go_wp2_with fail
    refine (size2_any (st := s) (r := qn) h2 h4 (by omega) _).mono ?_
    rintro e0 w11 ⟨rfl, rfl⟩
    rw [hs5]
    have l3 := row_range HR3.out
    go_wp2_with (refine wpList_load_mid rfl 24 _ rfl b3 0 rfl _ _ l3 Tryd.underlying24 rfl infoRule ?_)
    clear l3 f3 f4
    refine (widen_bad K B S (s : Nat) ra ta tn tc tz tu (qn : Nat) 4 _ (HT.out.keep HB.out) hu hdf (by decide)).mono ?_
    rintro e0 w12 ⟨rfl, hb9⟩
    have HR3 := Lib.hid (HR3.out.keep hb9 HR3.out.lt)
    have HR10 := Lib.hid (HR10.out.keep hb9 HR10.out.lt)
    have HR13 := Lib.hid (HR13.out.keep hb9 HR13.out.lt)
    have HB := Lib.hid (HB.out.trans (hb9.mono HB.out.size))
    clear hb9
    have q10 : (noRul).length = V10.length := by rw [HV10.out]; rfl
    go_upto_region 28 with (refine Ops.wpList_store_arr rfl 24 _ _ rfl (b10) rfl 24 _ (noRul) rfl HR10.out q10 infoRule noRul_one ?_; intro w9 hrow9 hon9)
    clear q10
    have HR3 := Lib.hid (HR3.out.other hon9 (by omega))
    have HR13 := Lib.hid (HR13.out.other hon9 (by omega))
    have HR10 := Lib.hid hrow9
    have HB := Lib.hid (HB.out.trans (hon9.below (by omega)))
    clear hon9 hrow9
    go_wp2_with fail
    refine (same_iface 4 _ (HL.out.keep HB.out) (by omega) (by decide)).mono ?_
    rintro e0 w13 ⟨rfl, hb9⟩
    have HR3 := Lib.hid (HR3.out.keep hb9 HR3.out.lt)
    have HR10 := Lib.hid (HR10.out.keep hb9 HR10.out.lt)
    have HR13 := Lib.hid (HR13.out.keep hb9 HR13.out.lt)
    have HB := Lib.hid (HB.out.trans (hb9.mono HB.out.size))
    clear hb9
    have q13 : noRul.length = V13.length := by rw [HV13.out]; rfl
    go_upto_region 30 with (refine Ops.wpList_store_arr rfl 24 _ _ rfl (b13) rfl 24 _ (noRul) rfl HR13.out q13 infoRule noRul_one ?_; intro w9 hrow9 hon9)
    clear q13
    have HR3 := Lib.hid (HR3.out.other hon9 (by omega))
    have HR10 := Lib.hid (HR10.out.other hon9 (by omega))
    have HR13 := Lib.hid hrow9
    have HB := Lib.hid (HB.out.trans (hon9.below (by omega)))
    clear hon9 hrow9
    have l10 := row_range HR10.out
    have l13 := row_range HR13.out
    go_wp2_with (first | (refine wpList_load_mid rfl 24 _ rfl b10 0 rfl _ _ l10 Tryd.underlying24 rfl infoRule ?_) | (refine wpList_load_mid rfl 24 _ rfl b13 0 rfl _ _ l13 Tryd.underlying24 rfl infoRule ?_))
    clear l10 l13
    refine (sameNil_any _).mono ?_
    rintro e0 w14 ⟨rfl, hb9⟩
    have HR3 := Lib.hid (HR3.out.keep hb9 HR3.out.lt)
    have HR10 := Lib.hid (HR10.out.keep hb9 HR10.out.lt)
    have HR13 := Lib.hid (HR13.out.keep hb9 HR13.out.lt)
    have HB := Lib.hid (HB.out.trans (hb9.mono HB.out.size))
    clear hb9
    go_wp2_with fail
    exact HB.out
  · obtain ⟨N, hN⟩ : ∃ N, N = s ^ (2 * qn + 1) := ⟨_, rfl⟩
    have hs5 : s5 s qn = N := by unfold s5; rw [if_neg (by omega), hN]
    rw [← hN] at hN4
    have HN := Lib.hid hN
    clear hN
    obtain ⟨s', r', es, er, h2, h4, hr5, htn, htl, htz⟩ := (lfault_01 hl0).nat HT.out.len
    obtain rfl : s = s' := by omega
    obtain rfl : r = r' := by omega
    have HRU := Lib.hid (fun w2 (h3 : Below w0.heap.size w0 w2) => (RulIs.keep ⟨HT.out, h2, h4, hr5, htn, htl, htz⟩ h3 : RulIs w2 s r ta tn tz))
    clear es er htn htl htz
    have dqr : decide ((qn : Int) < (r : Int)) = false := decide_eq_false (by omega)
    have nqr : ¬ (qn : Int) < (r : Int) := by omega
    have dq20 : decide ((qn : Int) < 20) = true := decide_eq_true (by omega)
    have dN : decide ((4096 : Int) < (N : Int)) = false := decide_eq_false (by omega)
    have nN : ¬ (4096 : Int) < (N : Int) := by omega
    have f3 := HR3.out.cell 3
    have f4 := HR3.out.cell 4
    unfold rulL at f3 f4
    dsimp only [List.getElem?_cons_succ, List.getElem?_cons_zero] at f3 f4
    go_wp2_with fail
    refine (size2_any (st := s) (r := qn) h2 h4 (by omega) _).mono ?_
    rintro e0 w15 ⟨rfl, rfl⟩
    rw [hs5]
    have l3 := row_range HR3.out
    go_wp2_with (refine wpList_load_mid rfl 24 _ rfl b3 0 rfl _ _ l3 Tryd.underlying24 rfl infoRule ?_)
    clear l3 f3 f4
    have hb10l := HR10.out.lt
    have hb13l := HR13.out.lt
    refine (widen_ok K B S s r ta tn tc tz tu qn _ (HT.out.keep HB.out) hu hl0 hrq N HN.out hN4).mono ?_
    rintro e0 w16 ⟨⟨g, rfl, hg, hig⟩, hb9⟩
    have HIG := Lib.hid hig
    clear hig
    have HR3 := Lib.hid (HR3.out.keep hb9 HR3.out.lt)
    have HR10 := Lib.hid (HR10.out.keep hb9 HR10.out.lt)
    have HR13 := Lib.hid (HR13.out.keep hb9 HR13.out.lt)
    have HB := Lib.hid (HB.out.trans (hb9.mono HB.out.size))
    clear hb9
    have hg10 : g ≠ b10 := by omega
    have hg13 : g ≠ b13 := by omega
    clear hb10l hb13l hg
    have q10 : (rulL 2 0 0 s qn (some ⟨g, 0, none⟩) N N ⟨#[]⟩).length = V10.length := by rw [HV10.out]; rfl
    go_upto_region 28 with (refine Ops.wpList_store_arr rfl 24 _ _ rfl (b10) rfl 24 _ (rulL 2 0 0 s qn (some ⟨g, 0, none⟩) N N ⟨#[]⟩) rfl HR10.out q10 infoRule (rul_one _ _ _ _ _ _ _ _ _) ?_; intro w9 hrow9 hon9)
    clear q10
    have HR3 := Lib.hid (HR3.out.other hon9 (by omega))
    have HR13 := Lib.hid (HR13.out.other hon9 (by omega))
    have HIG := Lib.hid (is_other HIG.out hon9 (by omega))
    have HR10 := Lib.hid hrow9
    have HB := Lib.hid (HB.out.trans (hon9.below (by omega)))
    clear hon9 hrow9
    go_wp2_with fail
    refine (same_nil _ (HL.out.keep HB.out)).mono ?_
    rintro e0 w17 ⟨rfl, hb9⟩
    have HR3 := Lib.hid (HR3.out.keep hb9 HR3.out.lt)
    have HR10 := Lib.hid (HR10.out.keep hb9 HR10.out.lt)
    have HR13 := Lib.hid (HR13.out.keep hb9 HR13.out.lt)
    have HIG := Lib.hid (HIG.out.keep hb9)
    have HB := Lib.hid (HB.out.trans (hb9.mono HB.out.size))
    clear hb9
    have q13 : noRul.length = V13.length := by rw [HV13.out]; rfl
    go_upto_region 30 with (refine Ops.wpList_store_arr rfl 24 _ _ rfl (b13) rfl 24 _ (noRul) rfl HR13.out q13 infoRule noRul_one ?_; intro w9 hrow9 hon9)
    clear q13
    have HR3 := Lib.hid (HR3.out.other hon9 (by omega))
    have HR10 := Lib.hid (HR10.out.other hon9 (by omega))
    have HIG := Lib.hid (is_other HIG.out hon9 (by omega))
    have HR13 := Lib.hid hrow9
    have HB := Lib.hid (HB.out.trans (hon9.below (by omega)))
    clear hon9 hrow9
    have l3 := row_range HR3.out
    go_wp2_with (refine wpList_load_mid rfl 24 _ rfl b3 0 rfl _ _ l3 Tryd.underlying24 rfl infoRule ?_)
    clear l3
    have hb13l := HR13.out.lt
    refine (widen2_any K B S s r ta tn tc tz tu qn N _ (HRU.out _ HB.out) hrq HN.out hN4).mono ?_
    rintro e0 w18 ⟨⟨ao, co, rfl, hown⟩, hb9⟩
    have HOWN := Lib.hid hown
    clear hown
    have HR3 := Lib.hid (HR3.out.keep hb9 HR3.out.lt)
    have HR10 := Lib.hid (HR10.out.keep hb9 HR10.out.lt)
    have HR13 := Lib.hid (HR13.out.keep hb9 HR13.out.lt)
    have HIG := Lib.hid (HIG.out.keep hb9)
    have HB := Lib.hid (HB.out.trans (hb9.mono HB.out.size))
    clear hb9
    have hne : Value.ownBlock (.slice ao N co) ≠ some b13 := fun hx => by have := own_low HOWN.out b13 hx; omega
    clear hb13l
    go_upto_region 32 with (refine Ops.wpList_store_arr rfl 24 _ _ rfl (b13) rfl 24 _ (rulL 2 0 0 s qn ao N co ⟨#[]⟩) rfl HR13.out rfl infoRule (rul_one _ _ _ _ _ _ _ _ _) ?_; intro w9 hrow9 hon9)
    have HOWN := Lib.hid (own_only HOWN.out hon9 hne)
    have HR3 := Lib.hid (HR3.out.other hon9 (by omega))
    have HR10 := Lib.hid (HR10.out.other hon9 (by omega))
    have HIG := Lib.hid (is_other HIG.out hon9 (by omega))
    have HR13 := Lib.hid hrow9
    have HB := Lib.hid (HB.out.trans (hon9.below (by omega)))
    clear hon9 hrow9
    have l10 := row_range HR10.out
    have l13 := row_range HR13.out
    go_wp2_with (first | (refine wpList_load_mid rfl 24 _ rfl b10 0 rfl _ _ l10 Tryd.underlying24 rfl infoRule ?_) | (refine wpList_load_mid rfl 24 _ rfl b13 0 rfl _ _ l13 Tryd.underlying24 rfl infoRule ?_))
    clear l10 l13
    refine (same2_any 2 0 0 s qn (some ⟨g, 0, none⟩) ao N N N co _ ⟨#[]⟩ _ HIG.out (own_is HOWN.out lst_len (by unfold maxLen; omega)).1).mono ?_
    rintro e0 w19 ⟨rfl, hb9⟩
    have HR3 := Lib.hid (HR3.out.keep hb9 HR3.out.lt)
    have HR10 := Lib.hid (HR10.out.keep hb9 HR10.out.lt)
    have HR13 := Lib.hid (HR13.out.keep hb9 HR13.out.lt)
    have HIG := Lib.hid (HIG.out.keep hb9)
    have HOWN := Lib.hid (own_keep HOWN.out hb9)
    have HB := Lib.hid (HB.out.trans (hb9.mono HB.out.size))
    clear hb9
    go_wp2_with fail
    exact HB.out
set_option maxHeartbeats 8000000 in
set_option maxRecDepth 1000000 in
theorem makes1 (K B S st ra : Int) (ta : Option Addr) (tn tc : Nat) (tz : List Int) (tu : ByteArray) (K' B' S' st' rb : Int) (tb : Option Addr) (tm td : Nat) (tzb : List Int) (tu' : ByteArray) (q : Int) (w : World) (hL : Tld.Laid w) (hT : Ints.Is w ta tn tz) (hu : tu.size ≤ 9223372036854775807) (hT' : Ints.Is w tb tm tzb) (hu' : tu'.size ≤ 9223372036854775807) (ha : lfault K B S st ra tz tu = 1) :
    Calls Tryd.prog 5 #[.agg #[.int .i64 K, .int .i64 B, .int .i64 S, .int .i64 st, .int .i64 ra, .slice ta tn tc, .string tu], .agg #[.int .i64 K', .int .i64 B', .int .i64 S', .int .i64 st', .int .i64 rb, .slice tb tm td, .string tu'], .int .i64 q] w fun e w' => e = .returned (.bool true) ∧ Below w.heap.size w w' := by
  have HL := Lib.hid hL
  have HT := Lib.hid hT
  have HT' := Lib.hid hT'
  have HWD := Lib.hid (wide_of (K := K) (B := B) (S := S) (st := st) (ra := ra) (tz := tz) (tu := tu) (q := q))
  rw [ha] at HWD
  have HFA := Lib.hid (fun w2 (h2 : Below w.heap.size w w2) => fault2_any K B S st ra ta tn tc tz tu none 0 0 [] w2 (hT.keep h2) hu (Ints.Is.nil w2))
  rw [wfault_nil, ha] at HFA
  unfold rulL at HFA
  have hcf : cfault K B S st ra tz tu K' B' S' st' rb tzb tu' = 1 := by unfold cfault; rw [if_pos (by rw [ha]; decide), ha]
  have HCF := Lib.hid hcf
  clear hcf
  clear hL hT hT' ha
  go_enter Tryd.func5, Tryd.ntmps5
  go_upto_region 1 with fail
  obtain ⟨hR3, hR4, hB⟩ := two_new w 24 24 (rulL K B S st ra ta tn tc tu) (rulL K' B' S' st' rb tb tm td tu')
  have HR3 : Hid (Row ((w.alloc (.cells #[.int .i64 K, .int .i64 B, .int .i64 S, .int .i64 st, .int .i64 ra, .slice ta tn tc, .string tu] 24)).alloc (.cells #[.int .i64 K', .int .i64 B', .int .i64 S', .int .i64 st', .int .i64 rb, .slice tb tm td, .string tu'] 24)) w.heap.size 24 (rulL K B S st ra ta tn tc tu)) := hR3
  have HR4 : Hid (Row ((w.alloc (.cells #[.int .i64 K, .int .i64 B, .int .i64 S, .int .i64 st, .int .i64 ra, .slice ta tn tc, .string tu] 24)).alloc (.cells #[.int .i64 K', .int .i64 B', .int .i64 S', .int .i64 st', .int .i64 rb, .slice tb tm td, .string tu'] 24)) (w.heap.size + 1) 24 (rulL K' B' S' st' rb tb tm td tu')) := hR4
  have HB : Hid (Below w.heap.size w ((w.alloc (.cells #[.int .i64 K, .int .i64 B, .int .i64 S, .int .i64 st, .int .i64 ra, .slice ta tn tc, .string tu] 24)).alloc (.cells #[.int .i64 K', .int .i64 B', .int .i64 S', .int .i64 st', .int .i64 rb, .slice tb tm td, .string tu'] 24))) := hB
  clear hR3 hR4 hB
  generalize (w.alloc (.cells #[.int .i64 K, .int .i64 B, .int .i64 S, .int .i64 st, .int .i64 ra, .slice ta tn tc, .string tu] 24)).alloc (.cells #[.int .i64 K', .int .i64 B', .int .i64 S', .int .i64 st', .int .i64 rb, .slice tb tm td, .string tu'] 24) = w1 at *
  obtain ⟨b3, hb3⟩ : ∃ b3, b3 = w.heap.size := ⟨_, rfl⟩
  obtain ⟨b4, hb4⟩ : ∃ b4, b4 = w.heap.size + 1 := ⟨_, rfl⟩
  rw [← hb4] at HR4 ⊢
  rw [← hb3] at HR3 ⊢
  have hle3 : w.heap.size ≤ b3 := by omega
  have h34 : b3 < b4 := by omega
  clear hb3 hb4
  have l3 := row_range HR3.out
  go_wp2_with (refine wpList_load_mid rfl 24 _ rfl b3 0 rfl _ _ l3 Tryd.underlying24 rfl infoRule ?_)
  clear l3
  refine (HFA.out _ HB.out).mono ?_
  rintro e0 w2 ⟨rfl, hb9⟩
  have HR3 := Lib.hid (HR3.out.keep hb9 HR3.out.lt)
  have HR4 := Lib.hid (HR4.out.keep hb9 HR4.out.lt)
  have HB := Lib.hid (HB.out.trans (hb9.mono HB.out.size))
  clear hb9
  clear HFA
  have l3 := row_range HR3.out
  have l4 := row_range HR4.out
  go_wp2_with (first | (refine wpList_load_mid rfl 24 _ rfl b3 0 rfl _ _ l3 Tryd.underlying24 rfl infoRule ?_) | (refine wpList_load_mid rfl 24 _ rfl b4 0 rfl _ _ l4 Tryd.underlying24 rfl infoRule ?_))
  clear l3 l4
  refine (compose_bad K B S st ra ta tn tc tz tu K' B' S' st' rb tb tm td tzb tu' 1 _ (HT.out.keep HB.out) hu (HT'.out.keep HB.out) hu' HCF.out (by decide)).mono ?_
  rintro e0 w3 ⟨rfl, hb9⟩
  have HR3 := Lib.hid (HR3.out.keep hb9 HR3.out.lt)
  have HR4 := Lib.hid (HR4.out.keep hb9 HR4.out.lt)
  have HB := Lib.hid (HB.out.trans (hb9.mono HB.out.size))
  clear hb9
  have hr0 : Row (w3.alloc (.cells #[.int .i64 0, .int .i64 0, .int .i64 0, .int .i64 0, .int .i64 0, .slice none 0 0, .string ⟨#[]⟩] 24)) w3.heap.size 24 noRul := row_alloc w3 24 noRul
  have hb8 : Below w3.heap.size w3 (w3.alloc (.cells #[.int .i64 0, .int .i64 0, .int .i64 0, .int .i64 0, .int .i64 0, .slice none 0 0, .string ⟨#[]⟩] 24)) := (Below.refl _ _).alloc (Nat.le_refl _) _
  go_upto_region 12 with (refine Ops.wpList_store_arr rfl 24 _ _ rfl (w3.heap.size) rfl 24 _ (noRul) rfl hr0 rfl infoRule noRul_one ?_; intro w9 hrow9 hon9)
  have HR3 := Lib.hid ((HR3.out.keep hb8 HR3.out.lt).other hon9 (by have := HR3.out.lt; omega))
  have h4lt : b4 < w3.heap.size := HR4.out.lt
  have HR4 := Lib.hid ((HR4.out.keep hb8 HR4.out.lt).other hon9 (by have := HR4.out.lt; omega))
  have HR10 := Lib.hid hrow9
  have HB := Lib.hid ((HB.out.trans (hb8.mono HB.out.size)).trans (hon9.below HB.out.size))
  clear hon9 hrow9 hb8 hr0
  obtain ⟨b10, hb10⟩ : ∃ b10, b10 = w3.heap.size := ⟨_, rfl⟩
  rw [← hb10] at HR10 h4lt ⊢
  clear hb10
  go_wp2_with fail
  refine (same_iface 1 _ (HL.out.keep HB.out) (by omega) (by decide)).mono ?_
  rintro e0 w4 ⟨rfl, hb9⟩
  have HR3 := Lib.hid (HR3.out.keep hb9 HR3.out.lt)
  have HR4 := Lib.hid (HR4.out.keep hb9 HR4.out.lt)
  have HR10 := Lib.hid (HR10.out.keep hb9 HR10.out.lt)
  have HB := Lib.hid (HB.out.trans (hb9.mono HB.out.size))
  clear hb9
  go_upto_region 14 with fail
  have hr13 := row_alloc w4 24 noRul
  have HR13 : Hid (Row (w4.alloc (.cells #[.int .i64 0, .int .i64 0, .int .i64 0, .int .i64 0, .int .i64 0, .slice none 0 0, .string ⟨#[]⟩] 24)) w4.heap.size 24 noRul) := hr13
  have hb8 : Below w4.heap.size w4 (w4.alloc (.cells #[.int .i64 0, .int .i64 0, .int .i64 0, .int .i64 0, .int .i64 0, .slice none 0 0, .string ⟨#[]⟩] 24)) := (Below.refl _ _).alloc (Nat.le_refl _) _
  have h1013 : b10 < w4.heap.size := HR10.out.lt
  clear hr13
  have HR3 := Lib.hid (HR3.out.keep hb8 HR3.out.lt)
  have HR4 := Lib.hid (HR4.out.keep hb8 HR4.out.lt)
  have HR10 := Lib.hid (HR10.out.keep hb8 HR10.out.lt)
  have HB := Lib.hid (HB.out.trans (hb8.mono HB.out.size))
  clear hb8
  obtain ⟨b13, hb13⟩ : ∃ b13, b13 = w4.heap.size := ⟨_, rfl⟩
  rw [← hb13] at HR13 h1013 ⊢
  clear hb13
  generalize w4.alloc (.cells #[.int .i64 0, .int .i64 0, .int .i64 0, .int .i64 0, .int .i64 0, .slice none 0 0, .string ⟨#[]⟩] 24) = w20 at *
  have l10 := row_range HR10.out
  have l13 := row_range HR13.out
  go_wp2_with (first | (refine wpList_load_mid rfl 24 _ rfl b10 0 rfl _ _ l10 Tryd.underlying24 rfl infoRule ?_) | (refine wpList_load_mid rfl 24 _ rfl b13 0 rfl _ _ l13 Tryd.underlying24 rfl infoRule ?_))
  clear l10 l13
  refine (sameNil_any _).mono ?_
  rintro e0 w5 ⟨rfl, hb9⟩
  have HR3 := Lib.hid (HR3.out.keep hb9 HR3.out.lt)
  have HR4 := Lib.hid (HR4.out.keep hb9 HR4.out.lt)
  have HR10 := Lib.hid (HR10.out.keep hb9 HR10.out.lt)
  have HR13 := Lib.hid (HR13.out.keep hb9 HR13.out.lt)
  have HB := Lib.hid (HB.out.trans (hb9.mono HB.out.size))
  clear hb9
  go_upto_if 67 with fail
  go_step
  go_step
  go_step
  rename_i hKK
  refine hKK _ _ ?_
  clear hKK
  refine half2 K B S st ra ta tn tc tz tu q 1 b3 b10 b13 (noRul) (noRul) w _ HL HT hu HWD.out HB HR3 HR10 HR13 (show (noRul).length = 7 from rfl) (show (noRul).length = 7 from rfl) (by omega) (by omega) (by omega) (by omega) _ _ _ _ _ _ _ _ _ _ _ _ _ _ _ _ _ _ _ _ _ _ _ _ _ _ _ _ _ _ _ _ _ _ _ _ _ _ _ _ _ _ _ _ _ _ _ _ _ _ _ _ _ _ _ _ _ _ _ _ _ _ _ _ _ _ _ _ _ _ _ _ _ _ _ _ _ _ _ _ _ _ _ _ _ _ _ _ _ _ _ _ _ _ _ _ _ _ _ _ _ _ _ _ ?_
  intro u7 u11 u12 u14 u15 u68 u69 u70 u71 u72 u73 u74 u75 u76 u77 u78 u79 u80 u81 u82 u83 u84 u85 u86 u87 u88 u89 u90 u91 u92 u93 u94 u95 u96 u97 u98 u99 u100 u101 u102 u103 u104 u105 u106 u107 w30 hb30
  go_ret
  exact ⟨rfl, hb30⟩
set_option maxHeartbeats 8000000 in
set_option maxRecDepth 1000000 in
theorem makes2 (K B S : Int) (st ra : Nat) (ta : Option Addr) (tn tc : Nat) (tz : List Int) (tu : ByteArray) (K' B' S' st' rb : Int) (tb : Option Addr) (tm td : Nat) (tzb : List Int) (tu' : ByteArray) (q : Int) (w : World) (hL : Tld.Laid w) (hT : Ints.Is w ta tn tz) (hu : tu.size ≤ 9223372036854775807) (hT' : Ints.Is w tb tm tzb) (hu' : tu'.size ≤ 9223372036854775807) (ha : lfault K B S st ra tz tu = 0) (hb : lfault K' B' S' st' rb tzb tu' = 1) :
    Calls Tryd.prog 5 #[.agg #[.int .i64 K, .int .i64 B, .int .i64 S, .int .i64 (st : Nat), .int .i64 (ra : Nat), .slice ta tn tc, .string tu], .agg #[.int .i64 K', .int .i64 B', .int .i64 S', .int .i64 st', .int .i64 rb, .slice tb tm td, .string tu'], .int .i64 q] w fun e w' => e = .returned (.bool true) ∧ Below w.heap.size w w' := by
  have HL := Lib.hid hL
  have HT := Lib.hid hT
  have HT' := Lib.hid hT'
  have HWD := Lib.hid (wide_of (K := K) (B := B) (S := S) (st := (st : Nat)) (ra := (ra : Nat)) (tz := tz) (tu := tu) (q := q))
  rw [ha] at HWD
  have HFA := Lib.hid (fun w2 (h2 : Below w.heap.size w w2) => fault2_any K B S (st : Nat) (ra : Nat) ta tn tc tz tu none 0 0 [] w2 (hT.keep h2) hu (Ints.Is.nil w2))
  rw [wfault_nil, ha] at HFA
  unfold rulL at HFA
  have HFB := Lib.hid (fun w2 (h2 : Below w.heap.size w w2) => fault2_any K' B' S' st' rb tb tm td tzb tu' none 0 0 [] w2 (hT'.keep h2) hu' (Ints.Is.nil w2))
  rw [wfault_nil, hb] at HFB
  unfold rulL at HFB
  have hcf : cfault K B S st ra tz tu K' B' S' st' rb tzb tu' = 1 := by unfold cfault; rw [if_neg (by simp [ha]), if_pos (by rw [hb]; decide), hb]
  have HCF := Lib.hid hcf
  clear hcf
  clear hL hT hT' ha hb
  go_enter Tryd.func5, Tryd.ntmps5
  go_upto_region 1 with fail
  obtain ⟨hR3, hR4, hB⟩ := two_new w 24 24 (rulL K B S (st : Nat) (ra : Nat) ta tn tc tu) (rulL K' B' S' st' rb tb tm td tu')
  have HR3 : Hid (Row ((w.alloc (.cells #[.int .i64 K, .int .i64 B, .int .i64 S, .int .i64 (st : Nat), .int .i64 (ra : Nat), .slice ta tn tc, .string tu] 24)).alloc (.cells #[.int .i64 K', .int .i64 B', .int .i64 S', .int .i64 st', .int .i64 rb, .slice tb tm td, .string tu'] 24)) w.heap.size 24 (rulL K B S (st : Nat) (ra : Nat) ta tn tc tu)) := hR3
  have HR4 : Hid (Row ((w.alloc (.cells #[.int .i64 K, .int .i64 B, .int .i64 S, .int .i64 (st : Nat), .int .i64 (ra : Nat), .slice ta tn tc, .string tu] 24)).alloc (.cells #[.int .i64 K', .int .i64 B', .int .i64 S', .int .i64 st', .int .i64 rb, .slice tb tm td, .string tu'] 24)) (w.heap.size + 1) 24 (rulL K' B' S' st' rb tb tm td tu')) := hR4
  have HB : Hid (Below w.heap.size w ((w.alloc (.cells #[.int .i64 K, .int .i64 B, .int .i64 S, .int .i64 (st : Nat), .int .i64 (ra : Nat), .slice ta tn tc, .string tu] 24)).alloc (.cells #[.int .i64 K', .int .i64 B', .int .i64 S', .int .i64 st', .int .i64 rb, .slice tb tm td, .string tu'] 24))) := hB
  clear hR3 hR4 hB
  generalize (w.alloc (.cells #[.int .i64 K, .int .i64 B, .int .i64 S, .int .i64 (st : Nat), .int .i64 (ra : Nat), .slice ta tn tc, .string tu] 24)).alloc (.cells #[.int .i64 K', .int .i64 B', .int .i64 S', .int .i64 st', .int .i64 rb, .slice tb tm td, .string tu'] 24) = w1 at *
  obtain ⟨b3, hb3⟩ : ∃ b3, b3 = w.heap.size := ⟨_, rfl⟩
  obtain ⟨b4, hb4⟩ : ∃ b4, b4 = w.heap.size + 1 := ⟨_, rfl⟩
  rw [← hb4] at HR4 ⊢
  rw [← hb3] at HR3 ⊢
  have hle3 : w.heap.size ≤ b3 := by omega
  have h34 : b3 < b4 := by omega
  clear hb3 hb4
  have l3 := row_range HR3.out
  go_wp2_with (refine wpList_load_mid rfl 24 _ rfl b3 0 rfl _ _ l3 Tryd.underlying24 rfl infoRule ?_)
  clear l3
  refine (HFA.out _ HB.out).mono ?_
  rintro e0 w2 ⟨rfl, hb9⟩
  have HR3 := Lib.hid (HR3.out.keep hb9 HR3.out.lt)
  have HR4 := Lib.hid (HR4.out.keep hb9 HR4.out.lt)
  have HB := Lib.hid (HB.out.trans (hb9.mono HB.out.size))
  clear hb9
  clear HFA
  have l4 := row_range HR4.out
  go_wp2_with (refine wpList_load_mid rfl 24 _ rfl b4 0 rfl _ _ l4 Tryd.underlying24 rfl infoRule ?_)
  clear l4
  refine (HFB.out _ HB.out).mono ?_
  rintro e0 w3 ⟨rfl, hb9⟩
  have HR3 := Lib.hid (HR3.out.keep hb9 HR3.out.lt)
  have HR4 := Lib.hid (HR4.out.keep hb9 HR4.out.lt)
  have HB := Lib.hid (HB.out.trans (hb9.mono HB.out.size))
  clear hb9
  clear HFB
  have l3 := row_range HR3.out
  have l4 := row_range HR4.out
  go_wp2_with (first | (refine wpList_load_mid rfl 24 _ rfl b3 0 rfl _ _ l3 Tryd.underlying24 rfl infoRule ?_) | (refine wpList_load_mid rfl 24 _ rfl b4 0 rfl _ _ l4 Tryd.underlying24 rfl infoRule ?_))
  clear l3 l4
  refine (compose_bad K B S (st : Nat) (ra : Nat) ta tn tc tz tu K' B' S' st' rb tb tm td tzb tu' 1 _ (HT.out.keep HB.out) hu (HT'.out.keep HB.out) hu' HCF.out (by decide)).mono ?_
  rintro e0 w4 ⟨rfl, hb9⟩
  have HR3 := Lib.hid (HR3.out.keep hb9 HR3.out.lt)
  have HR4 := Lib.hid (HR4.out.keep hb9 HR4.out.lt)
  have HB := Lib.hid (HB.out.trans (hb9.mono HB.out.size))
  clear hb9
  have hr0 : Row (w4.alloc (.cells #[.int .i64 0, .int .i64 0, .int .i64 0, .int .i64 0, .int .i64 0, .slice none 0 0, .string ⟨#[]⟩] 24)) w4.heap.size 24 noRul := row_alloc w4 24 noRul
  have hb8 : Below w4.heap.size w4 (w4.alloc (.cells #[.int .i64 0, .int .i64 0, .int .i64 0, .int .i64 0, .int .i64 0, .slice none 0 0, .string ⟨#[]⟩] 24)) := (Below.refl _ _).alloc (Nat.le_refl _) _
  go_upto_region 12 with (refine Ops.wpList_store_arr rfl 24 _ _ rfl (w4.heap.size) rfl 24 _ (noRul) rfl hr0 rfl infoRule noRul_one ?_; intro w9 hrow9 hon9)
  have HR3 := Lib.hid ((HR3.out.keep hb8 HR3.out.lt).other hon9 (by have := HR3.out.lt; omega))
  have h4lt : b4 < w4.heap.size := HR4.out.lt
  have HR4 := Lib.hid ((HR4.out.keep hb8 HR4.out.lt).other hon9 (by have := HR4.out.lt; omega))
  have HR10 := Lib.hid hrow9
  have HB := Lib.hid ((HB.out.trans (hb8.mono HB.out.size)).trans (hon9.below HB.out.size))
  clear hon9 hrow9 hb8 hr0
  obtain ⟨b10, hb10⟩ : ∃ b10, b10 = w4.heap.size := ⟨_, rfl⟩
  rw [← hb10] at HR10 h4lt ⊢
  clear hb10
  go_wp2_with fail
  refine (same_iface 1 _ (HL.out.keep HB.out) (by omega) (by decide)).mono ?_
  rintro e0 w5 ⟨rfl, hb9⟩
  have HR3 := Lib.hid (HR3.out.keep hb9 HR3.out.lt)
  have HR4 := Lib.hid (HR4.out.keep hb9 HR4.out.lt)
  have HR10 := Lib.hid (HR10.out.keep hb9 HR10.out.lt)
  have HB := Lib.hid (HB.out.trans (hb9.mono HB.out.size))
  clear hb9
  go_upto_region 14 with fail
  have hr13 := row_alloc w5 24 noRul
  have HR13 : Hid (Row (w5.alloc (.cells #[.int .i64 0, .int .i64 0, .int .i64 0, .int .i64 0, .int .i64 0, .slice none 0 0, .string ⟨#[]⟩] 24)) w5.heap.size 24 noRul) := hr13
  have hb8 : Below w5.heap.size w5 (w5.alloc (.cells #[.int .i64 0, .int .i64 0, .int .i64 0, .int .i64 0, .int .i64 0, .slice none 0 0, .string ⟨#[]⟩] 24)) := (Below.refl _ _).alloc (Nat.le_refl _) _
  have h1013 : b10 < w5.heap.size := HR10.out.lt
  clear hr13
  have HR3 := Lib.hid (HR3.out.keep hb8 HR3.out.lt)
  have HR4 := Lib.hid (HR4.out.keep hb8 HR4.out.lt)
  have HR10 := Lib.hid (HR10.out.keep hb8 HR10.out.lt)
  have HB := Lib.hid (HB.out.trans (hb8.mono HB.out.size))
  clear hb8
  obtain ⟨b13, hb13⟩ : ∃ b13, b13 = w5.heap.size := ⟨_, rfl⟩
  rw [← hb13] at HR13 h1013 ⊢
  clear hb13
  generalize w5.alloc (.cells #[.int .i64 0, .int .i64 0, .int .i64 0, .int .i64 0, .int .i64 0, .slice none 0 0, .string ⟨#[]⟩] 24) = w20 at *
  have l10 := row_range HR10.out
  have l13 := row_range HR13.out
  go_wp2_with (first | (refine wpList_load_mid rfl 24 _ rfl b10 0 rfl _ _ l10 Tryd.underlying24 rfl infoRule ?_) | (refine wpList_load_mid rfl 24 _ rfl b13 0 rfl _ _ l13 Tryd.underlying24 rfl infoRule ?_))
  clear l10 l13
  refine (sameNil_any _).mono ?_
  rintro e0 w6 ⟨rfl, hb9⟩
  have HR3 := Lib.hid (HR3.out.keep hb9 HR3.out.lt)
  have HR4 := Lib.hid (HR4.out.keep hb9 HR4.out.lt)
  have HR10 := Lib.hid (HR10.out.keep hb9 HR10.out.lt)
  have HR13 := Lib.hid (HR13.out.keep hb9 HR13.out.lt)
  have HB := Lib.hid (HB.out.trans (hb9.mono HB.out.size))
  clear hb9
  go_upto_if 67 with fail
  go_step
  go_step
  go_step
  rename_i hKK
  refine hKK _ _ ?_
  clear hKK
  refine half2 K B S (st : Nat) (ra : Nat) ta tn tc tz tu q 0 b3 b10 b13 (noRul) (noRul) w _ HL HT hu HWD.out HB HR3 HR10 HR13 (show (noRul).length = 7 from rfl) (show (noRul).length = 7 from rfl) (by omega) (by omega) (by omega) (by omega) _ _ _ _ _ _ _ _ _ _ _ _ _ _ _ _ _ _ _ _ _ _ _ _ _ _ _ _ _ _ _ _ _ _ _ _ _ _ _ _ _ _ _ _ _ _ _ _ _ _ _ _ _ _ _ _ _ _ _ _ _ _ _ _ _ _ _ _ _ _ _ _ _ _ _ _ _ _ _ _ _ _ _ _ _ _ _ _ _ _ _ _ _ _ _ _ _ _ _ _ _ _ _ _ ?_
  intro u7 u11 u12 u14 u15 u68 u69 u70 u71 u72 u73 u74 u75 u76 u77 u78 u79 u80 u81 u82 u83 u84 u85 u86 u87 u88 u89 u90 u91 u92 u93 u94 u95 u96 u97 u98 u99 u100 u101 u102 u103 u104 u105 u106 u107 w30 hb30
  go_ret
  exact ⟨rfl, hb30⟩
set_option maxHeartbeats 8000000 in
set_option maxRecDepth 1000000 in
theorem makes3 (K B S : Int) (st ra : Nat) (ta : Option Addr) (tn tc : Nat) (tz : List Int) (tu : ByteArray) (K' B' S' : Int) (st' rb : Nat) (tb : Option Addr) (tm td : Nat) (tzb : List Int) (tu' : ByteArray) (q : Int) (w : World) (hL : Tld.Laid w) (hT : Ints.Is w ta tn tz) (hu : tu.size ≤ 9223372036854775807) (hT' : Ints.Is w tb tm tzb) (hu' : tu'.size ≤ 9223372036854775807) (ha : lfault K B S st ra tz tu = 0) (hb : lfault K' B' S' st' rb tzb tu' = 0) (hst : st ≠ st') :
    Calls Tryd.prog 5 #[.agg #[.int .i64 K, .int .i64 B, .int .i64 S, .int .i64 (st : Nat), .int .i64 (ra : Nat), .slice ta tn tc, .string tu], .agg #[.int .i64 K', .int .i64 B', .int .i64 S', .int .i64 (st' : Nat), .int .i64 (rb : Nat), .slice tb tm td, .string tu'], .int .i64 q] w fun e w' => e = .returned (.bool true) ∧ Below w.heap.size w w' := by
  have HL := Lib.hid hL
  have HT := Lib.hid hT
  have HT' := Lib.hid hT'
  have HWD := Lib.hid (wide_of (K := K) (B := B) (S := S) (st := (st : Nat)) (ra := (ra : Nat)) (tz := tz) (tu := tu) (q := q))
  rw [ha] at HWD
  have HFA := Lib.hid (fun w2 (h2 : Below w.heap.size w w2) => fault2_any K B S (st : Nat) (ra : Nat) ta tn tc tz tu none 0 0 [] w2 (hT.keep h2) hu (Ints.Is.nil w2))
  rw [wfault_nil, ha] at HFA
  unfold rulL at HFA
  have HFB := Lib.hid (fun w2 (h2 : Below w.heap.size w w2) => fault2_any K' B' S' (st' : Nat) (rb : Nat) tb tm td tzb tu' none 0 0 [] w2 (hT'.keep h2) hu' (Ints.Is.nil w2))
  rw [wfault_nil, hb] at HFB
  unfold rulL at HFB
  have hcf : cfault K B S st ra tz tu K' B' S' st' rb tzb tu' = 3 := by unfold cfault; rw [if_neg (by simp [ha]), if_neg (by simp [hb]), if_pos (by omega)]
  obtain ⟨s', r', es, er, h2, h4, hr5, htn, htl, htz⟩ := (lfault_01 ha).nat hT.len
  obtain rfl : st = s' := by omega
  obtain rfl : ra = r' := by omega
  clear htn htl htz es er
  have bst : ((st : Int) != (st' : Int)) = true := by rw [bne_iff_ne]; omega
  clear hst
  have HCF := Lib.hid hcf
  clear hcf
  clear hL hT hT' ha hb
  go_enter Tryd.func5, Tryd.ntmps5
  go_upto_region 1 with fail
  obtain ⟨hR3, hR4, hB⟩ := two_new w 24 24 (rulL K B S (st : Nat) (ra : Nat) ta tn tc tu) (rulL K' B' S' (st' : Nat) (rb : Nat) tb tm td tu')
  have HR3 : Hid (Row ((w.alloc (.cells #[.int .i64 K, .int .i64 B, .int .i64 S, .int .i64 (st : Nat), .int .i64 (ra : Nat), .slice ta tn tc, .string tu] 24)).alloc (.cells #[.int .i64 K', .int .i64 B', .int .i64 S', .int .i64 (st' : Nat), .int .i64 (rb : Nat), .slice tb tm td, .string tu'] 24)) w.heap.size 24 (rulL K B S (st : Nat) (ra : Nat) ta tn tc tu)) := hR3
  have HR4 : Hid (Row ((w.alloc (.cells #[.int .i64 K, .int .i64 B, .int .i64 S, .int .i64 (st : Nat), .int .i64 (ra : Nat), .slice ta tn tc, .string tu] 24)).alloc (.cells #[.int .i64 K', .int .i64 B', .int .i64 S', .int .i64 (st' : Nat), .int .i64 (rb : Nat), .slice tb tm td, .string tu'] 24)) (w.heap.size + 1) 24 (rulL K' B' S' (st' : Nat) (rb : Nat) tb tm td tu')) := hR4
  have HB : Hid (Below w.heap.size w ((w.alloc (.cells #[.int .i64 K, .int .i64 B, .int .i64 S, .int .i64 (st : Nat), .int .i64 (ra : Nat), .slice ta tn tc, .string tu] 24)).alloc (.cells #[.int .i64 K', .int .i64 B', .int .i64 S', .int .i64 (st' : Nat), .int .i64 (rb : Nat), .slice tb tm td, .string tu'] 24))) := hB
  clear hR3 hR4 hB
  generalize (w.alloc (.cells #[.int .i64 K, .int .i64 B, .int .i64 S, .int .i64 (st : Nat), .int .i64 (ra : Nat), .slice ta tn tc, .string tu] 24)).alloc (.cells #[.int .i64 K', .int .i64 B', .int .i64 S', .int .i64 (st' : Nat), .int .i64 (rb : Nat), .slice tb tm td, .string tu'] 24) = w1 at *
  obtain ⟨b3, hb3⟩ : ∃ b3, b3 = w.heap.size := ⟨_, rfl⟩
  obtain ⟨b4, hb4⟩ : ∃ b4, b4 = w.heap.size + 1 := ⟨_, rfl⟩
  rw [← hb4] at HR4 ⊢
  rw [← hb3] at HR3 ⊢
  have hle3 : w.heap.size ≤ b3 := by omega
  have h34 : b3 < b4 := by omega
  clear hb3 hb4
  have l3 := row_range HR3.out
  go_wp2_with (refine wpList_load_mid rfl 24 _ rfl b3 0 rfl _ _ l3 Tryd.underlying24 rfl infoRule ?_)
  clear l3
  refine (HFA.out _ HB.out).mono ?_
  rintro e0 w2 ⟨rfl, hb9⟩
  have HR3 := Lib.hid (HR3.out.keep hb9 HR3.out.lt)
  have HR4 := Lib.hid (HR4.out.keep hb9 HR4.out.lt)
  have HB := Lib.hid (HB.out.trans (hb9.mono HB.out.size))
  clear hb9
  clear HFA
  have l4 := row_range HR4.out
  go_wp2_with (refine wpList_load_mid rfl 24 _ rfl b4 0 rfl _ _ l4 Tryd.underlying24 rfl infoRule ?_)
  clear l4
  refine (HFB.out _ HB.out).mono ?_
  rintro e0 w3 ⟨rfl, hb9⟩
  have HR3 := Lib.hid (HR3.out.keep hb9 HR3.out.lt)
  have HR4 := Lib.hid (HR4.out.keep hb9 HR4.out.lt)
  have HB := Lib.hid (HB.out.trans (hb9.mono HB.out.size))
  clear hb9
  clear HFB
  have f3 := HR3.out.cell 3
  have f4 := HR3.out.cell 4
  have g3 := HR4.out.cell 3
  have g4 := HR4.out.cell 4
  unfold rulL at f3 f4 g3 g4
  dsimp only [List.getElem?_cons_succ, List.getElem?_cons_zero] at f3 f4 g3 g4
  have l3 := row_range HR3.out
  have l4 := row_range HR4.out
  go_wp2_with (first | (refine wpList_load_mid rfl 24 _ rfl b3 0 rfl _ _ l3 Tryd.underlying24 rfl infoRule ?_) | (refine wpList_load_mid rfl 24 _ rfl b4 0 rfl _ _ l4 Tryd.underlying24 rfl infoRule ?_))
  clear l3 l4
  clear f3 f4 g3 g4
  refine (compose_bad K B S (st : Nat) (ra : Nat) ta tn tc tz tu K' B' S' (st' : Nat) (rb : Nat) tb tm td tzb tu' 3 _ (HT.out.keep HB.out) hu (HT'.out.keep HB.out) hu' HCF.out (by decide)).mono ?_
  rintro e0 w4 ⟨rfl, hb9⟩
  have HR3 := Lib.hid (HR3.out.keep hb9 HR3.out.lt)
  have HR4 := Lib.hid (HR4.out.keep hb9 HR4.out.lt)
  have HB := Lib.hid (HB.out.trans (hb9.mono HB.out.size))
  clear hb9
  have hr0 : Row (w4.alloc (.cells #[.int .i64 0, .int .i64 0, .int .i64 0, .int .i64 0, .int .i64 0, .slice none 0 0, .string ⟨#[]⟩] 24)) w4.heap.size 24 noRul := row_alloc w4 24 noRul
  have hb8 : Below w4.heap.size w4 (w4.alloc (.cells #[.int .i64 0, .int .i64 0, .int .i64 0, .int .i64 0, .int .i64 0, .slice none 0 0, .string ⟨#[]⟩] 24)) := (Below.refl _ _).alloc (Nat.le_refl _) _
  go_upto_region 12 with (refine Ops.wpList_store_arr rfl 24 _ _ rfl (w4.heap.size) rfl 24 _ (noRul) rfl hr0 rfl infoRule noRul_one ?_; intro w9 hrow9 hon9)
  have HR3 := Lib.hid ((HR3.out.keep hb8 HR3.out.lt).other hon9 (by have := HR3.out.lt; omega))
  have h4lt : b4 < w4.heap.size := HR4.out.lt
  have HR4 := Lib.hid ((HR4.out.keep hb8 HR4.out.lt).other hon9 (by have := HR4.out.lt; omega))
  have HR10 := Lib.hid hrow9
  have HB := Lib.hid ((HB.out.trans (hb8.mono HB.out.size)).trans (hon9.below HB.out.size))
  clear hon9 hrow9 hb8 hr0
  obtain ⟨b10, hb10⟩ : ∃ b10, b10 = w4.heap.size := ⟨_, rfl⟩
  rw [← hb10] at HR10 h4lt ⊢
  clear hb10
  go_wp2_with fail
  refine (same_iface 3 _ (HL.out.keep HB.out) (by omega) (by decide)).mono ?_
  rintro e0 w5 ⟨rfl, hb9⟩
  have HR3 := Lib.hid (HR3.out.keep hb9 HR3.out.lt)
  have HR4 := Lib.hid (HR4.out.keep hb9 HR4.out.lt)
  have HR10 := Lib.hid (HR10.out.keep hb9 HR10.out.lt)
  have HB := Lib.hid (HB.out.trans (hb9.mono HB.out.size))
  clear hb9
  go_upto_region 14 with fail
  have hr13 := row_alloc w5 24 noRul
  have HR13 : Hid (Row (w5.alloc (.cells #[.int .i64 0, .int .i64 0, .int .i64 0, .int .i64 0, .int .i64 0, .slice none 0 0, .string ⟨#[]⟩] 24)) w5.heap.size 24 noRul) := hr13
  have hb8 : Below w5.heap.size w5 (w5.alloc (.cells #[.int .i64 0, .int .i64 0, .int .i64 0, .int .i64 0, .int .i64 0, .slice none 0 0, .string ⟨#[]⟩] 24)) := (Below.refl _ _).alloc (Nat.le_refl _) _
  have h1013 : b10 < w5.heap.size := HR10.out.lt
  clear hr13
  have HR3 := Lib.hid (HR3.out.keep hb8 HR3.out.lt)
  have HR4 := Lib.hid (HR4.out.keep hb8 HR4.out.lt)
  have HR10 := Lib.hid (HR10.out.keep hb8 HR10.out.lt)
  have HB := Lib.hid (HB.out.trans (hb8.mono HB.out.size))
  clear hb8
  obtain ⟨b13, hb13⟩ : ∃ b13, b13 = w5.heap.size := ⟨_, rfl⟩
  rw [← hb13] at HR13 h1013 ⊢
  clear hb13
  generalize w5.alloc (.cells #[.int .i64 0, .int .i64 0, .int .i64 0, .int .i64 0, .int .i64 0, .slice none 0 0, .string ⟨#[]⟩] 24) = w20 at *
  have l10 := row_range HR10.out
  have l13 := row_range HR13.out
  go_wp2_with (first | (refine wpList_load_mid rfl 24 _ rfl b10 0 rfl _ _ l10 Tryd.underlying24 rfl infoRule ?_) | (refine wpList_load_mid rfl 24 _ rfl b13 0 rfl _ _ l13 Tryd.underlying24 rfl infoRule ?_))
  clear l10 l13
  refine (sameNil_any _).mono ?_
  rintro e0 w6 ⟨rfl, hb9⟩
  have HR3 := Lib.hid (HR3.out.keep hb9 HR3.out.lt)
  have HR4 := Lib.hid (HR4.out.keep hb9 HR4.out.lt)
  have HR10 := Lib.hid (HR10.out.keep hb9 HR10.out.lt)
  have HR13 := Lib.hid (HR13.out.keep hb9 HR13.out.lt)
  have HB := Lib.hid (HB.out.trans (hb9.mono HB.out.size))
  clear hb9
  go_upto_if 67 with fail
  go_step
  go_step
  go_step
  rename_i hKK
  refine hKK _ _ ?_
  clear hKK
  refine half2 K B S (st : Nat) (ra : Nat) ta tn tc tz tu q 0 b3 b10 b13 (noRul) (noRul) w _ HL HT hu HWD.out HB HR3 HR10 HR13 (show (noRul).length = 7 from rfl) (show (noRul).length = 7 from rfl) (by omega) (by omega) (by omega) (by omega) _ _ _ _ _ _ _ _ _ _ _ _ _ _ _ _ _ _ _ _ _ _ _ _ _ _ _ _ _ _ _ _ _ _ _ _ _ _ _ _ _ _ _ _ _ _ _ _ _ _ _ _ _ _ _ _ _ _ _ _ _ _ _ _ _ _ _ _ _ _ _ _ _ _ _ _ _ _ _ _ _ _ _ _ _ _ _ _ _ _ _ _ _ _ _ _ _ _ _ _ _ _ _ _ ?_
  intro u7 u11 u12 u14 u15 u68 u69 u70 u71 u72 u73 u74 u75 u76 u77 u78 u79 u80 u81 u82 u83 u84 u85 u86 u87 u88 u89 u90 u91 u92 u93 u94 u95 u96 u97 u98 u99 u100 u101 u102 u103 u104 u105 u106 u107 w30 hb30
  go_ret
  exact ⟨rfl, hb30⟩
set_option maxHeartbeats 8000000 in
set_option maxRecDepth 1000000 in
theorem makes4 (K B S : Int) (st ra : Nat) (ta : Option Addr) (tn tc : Nat) (tz : List Int) (tu : ByteArray) (K' B' S' : Int) (rb : Nat) (tb : Option Addr) (tm td : Nat) (tzb : List Int) (tu' : ByteArray) (q : Int) (w : World) (hL : Tld.Laid w) (hT : Ints.Is w ta tn tz) (hu : tu.size ≤ 9223372036854775807) (hT' : Ints.Is w tb tm tzb) (hu' : tu'.size ≤ 9223372036854775807) (ha : lfault K B S st ra tz tu = 0) (hb : lfault K' B' S' st rb tzb tu' = 0) (hbig : 4096 < st ^ (2 * (ra + rb) + 1)) :
    Calls Tryd.prog 5 #[.agg #[.int .i64 K, .int .i64 B, .int .i64 S, .int .i64 (st : Nat), .int .i64 (ra : Nat), .slice ta tn tc, .string tu], .agg #[.int .i64 K', .int .i64 B', .int .i64 S', .int .i64 (st : Nat), .int .i64 (rb : Nat), .slice tb tm td, .string tu'], .int .i64 q] w fun e w' => e = .returned (.bool true) ∧ Below w.heap.size w w' := by
  have HL := Lib.hid hL
  have HT := Lib.hid hT
  have HT' := Lib.hid hT'
  have HWD := Lib.hid (wide_of (K := K) (B := B) (S := S) (st := (st : Nat)) (ra := (ra : Nat)) (tz := tz) (tu := tu) (q := q))
  rw [ha] at HWD
  have HFA := Lib.hid (fun w2 (h2 : Below w.heap.size w w2) => fault2_any K B S (st : Nat) (ra : Nat) ta tn tc tz tu none 0 0 [] w2 (hT.keep h2) hu (Ints.Is.nil w2))
  rw [wfault_nil, ha] at HFA
  unfold rulL at HFA
  have HFB := Lib.hid (fun w2 (h2 : Below w.heap.size w w2) => fault2_any K' B' S' (st : Nat) (rb : Nat) tb tm td tzb tu' none 0 0 [] w2 (hT'.keep h2) hu' (Ints.Is.nil w2))
  rw [wfault_nil, hb] at HFB
  unfold rulL at HFB
  have hcf : cfault K B S st ra tz tu K' B' S' st rb tzb tu' = 4 := by unfold cfault; rw [if_neg (by simp [ha]), if_neg (by simp [hb]), if_neg (by simp), if_pos (by rw [Int.toNat_natCast, Int.toNat_natCast, Int.toNat_natCast]; exact hbig)]
  obtain ⟨s', r', es, er, h2, h4, hr5, htn, htl, htz⟩ := (lfault_01 ha).nat hT.len
  obtain rfl : st = s' := by omega
  obtain rfl : ra = r' := by omega
  obtain ⟨s2, r2, es2, er2, _, _, hr52, htn2, htl2, htz2⟩ := (lfault_01 hb).nat hT'.len
  obtain rfl : st = s2 := by omega
  obtain rfl : rb = r2 := by omega
  obtain ⟨rr, hrr⟩ : ∃ rr, rr = ra + rb := ⟨_, rfl⟩
  have hrI : (ra : Int) + (rb : Int) = (rr : Int) := by omega
  have hrr10 : rr ≤ 10 := by omega
  have HSZ := Lib.hid (fun w2 => size2_any (st := st) (r := rr) h2 h4 (by omega) w2)
  rw [show s5 st rr = 5000 from by unfold s5; rw [hrr, if_pos hbig]] at HSZ
  clear htn htl htz es er es2 er2 htn2 htl2 htz2 hrr
  clear hbig
  have bst : ((st : Int) != (st : Int)) = false := by rw [bne_self_eq_false]
  have HCF := Lib.hid hcf
  clear hcf
  clear hL hT hT' ha hb
  go_enter Tryd.func5, Tryd.ntmps5
  go_upto_region 1 with fail
  obtain ⟨hR3, hR4, hB⟩ := two_new w 24 24 (rulL K B S (st : Nat) (ra : Nat) ta tn tc tu) (rulL K' B' S' (st : Nat) (rb : Nat) tb tm td tu')
  have HR3 : Hid (Row ((w.alloc (.cells #[.int .i64 K, .int .i64 B, .int .i64 S, .int .i64 (st : Nat), .int .i64 (ra : Nat), .slice ta tn tc, .string tu] 24)).alloc (.cells #[.int .i64 K', .int .i64 B', .int .i64 S', .int .i64 (st : Nat), .int .i64 (rb : Nat), .slice tb tm td, .string tu'] 24)) w.heap.size 24 (rulL K B S (st : Nat) (ra : Nat) ta tn tc tu)) := hR3
  have HR4 : Hid (Row ((w.alloc (.cells #[.int .i64 K, .int .i64 B, .int .i64 S, .int .i64 (st : Nat), .int .i64 (ra : Nat), .slice ta tn tc, .string tu] 24)).alloc (.cells #[.int .i64 K', .int .i64 B', .int .i64 S', .int .i64 (st : Nat), .int .i64 (rb : Nat), .slice tb tm td, .string tu'] 24)) (w.heap.size + 1) 24 (rulL K' B' S' (st : Nat) (rb : Nat) tb tm td tu')) := hR4
  have HB : Hid (Below w.heap.size w ((w.alloc (.cells #[.int .i64 K, .int .i64 B, .int .i64 S, .int .i64 (st : Nat), .int .i64 (ra : Nat), .slice ta tn tc, .string tu] 24)).alloc (.cells #[.int .i64 K', .int .i64 B', .int .i64 S', .int .i64 (st : Nat), .int .i64 (rb : Nat), .slice tb tm td, .string tu'] 24))) := hB
  clear hR3 hR4 hB
  generalize (w.alloc (.cells #[.int .i64 K, .int .i64 B, .int .i64 S, .int .i64 (st : Nat), .int .i64 (ra : Nat), .slice ta tn tc, .string tu] 24)).alloc (.cells #[.int .i64 K', .int .i64 B', .int .i64 S', .int .i64 (st : Nat), .int .i64 (rb : Nat), .slice tb tm td, .string tu'] 24) = w1 at *
  obtain ⟨b3, hb3⟩ : ∃ b3, b3 = w.heap.size := ⟨_, rfl⟩
  obtain ⟨b4, hb4⟩ : ∃ b4, b4 = w.heap.size + 1 := ⟨_, rfl⟩
  rw [← hb4] at HR4 ⊢
  rw [← hb3] at HR3 ⊢
  have hle3 : w.heap.size ≤ b3 := by omega
  have h34 : b3 < b4 := by omega
  clear hb3 hb4
  have l3 := row_range HR3.out
  go_wp2_with (refine wpList_load_mid rfl 24 _ rfl b3 0 rfl _ _ l3 Tryd.underlying24 rfl infoRule ?_)
  clear l3
  refine (HFA.out _ HB.out).mono ?_
  rintro e0 w2 ⟨rfl, hb9⟩
  have HR3 := Lib.hid (HR3.out.keep hb9 HR3.out.lt)
  have HR4 := Lib.hid (HR4.out.keep hb9 HR4.out.lt)
  have HB := Lib.hid (HB.out.trans (hb9.mono HB.out.size))
  clear hb9
  clear HFA
  have l4 := row_range HR4.out
  go_wp2_with (refine wpList_load_mid rfl 24 _ rfl b4 0 rfl _ _ l4 Tryd.underlying24 rfl infoRule ?_)
  clear l4
  refine (HFB.out _ HB.out).mono ?_
  rintro e0 w3 ⟨rfl, hb9⟩
  have HR3 := Lib.hid (HR3.out.keep hb9 HR3.out.lt)
  have HR4 := Lib.hid (HR4.out.keep hb9 HR4.out.lt)
  have HB := Lib.hid (HB.out.trans (hb9.mono HB.out.size))
  clear hb9
  clear HFB
  have f3 := HR3.out.cell 3
  have f4 := HR3.out.cell 4
  have g3 := HR4.out.cell 3
  have g4 := HR4.out.cell 4
  unfold rulL at f3 f4 g3 g4
  dsimp only [List.getElem?_cons_succ, List.getElem?_cons_zero] at f3 f4 g3 g4
  go_wp2_with fail
  refine (HSZ.out _).mono ?_
  rintro e0 w4 ⟨rfl, rfl⟩
  clear HSZ
  have l3 := row_range HR3.out
  have l4 := row_range HR4.out
  go_wp2_with (first | (refine wpList_load_mid rfl 24 _ rfl b3 0 rfl _ _ l3 Tryd.underlying24 rfl infoRule ?_) | (refine wpList_load_mid rfl 24 _ rfl b4 0 rfl _ _ l4 Tryd.underlying24 rfl infoRule ?_))
  clear l3 l4
  clear f3 f4 g3 g4
  refine (compose_bad K B S (st : Nat) (ra : Nat) ta tn tc tz tu K' B' S' (st : Nat) (rb : Nat) tb tm td tzb tu' 4 _ (HT.out.keep HB.out) hu (HT'.out.keep HB.out) hu' HCF.out (by decide)).mono ?_
  rintro e0 w5 ⟨rfl, hb9⟩
  have HR3 := Lib.hid (HR3.out.keep hb9 HR3.out.lt)
  have HR4 := Lib.hid (HR4.out.keep hb9 HR4.out.lt)
  have HB := Lib.hid (HB.out.trans (hb9.mono HB.out.size))
  clear hb9
  have hr0 : Row (w5.alloc (.cells #[.int .i64 0, .int .i64 0, .int .i64 0, .int .i64 0, .int .i64 0, .slice none 0 0, .string ⟨#[]⟩] 24)) w5.heap.size 24 noRul := row_alloc w5 24 noRul
  have hb8 : Below w5.heap.size w5 (w5.alloc (.cells #[.int .i64 0, .int .i64 0, .int .i64 0, .int .i64 0, .int .i64 0, .slice none 0 0, .string ⟨#[]⟩] 24)) := (Below.refl _ _).alloc (Nat.le_refl _) _
  go_upto_region 12 with (refine Ops.wpList_store_arr rfl 24 _ _ rfl (w5.heap.size) rfl 24 _ (noRul) rfl hr0 rfl infoRule noRul_one ?_; intro w9 hrow9 hon9)
  have HR3 := Lib.hid ((HR3.out.keep hb8 HR3.out.lt).other hon9 (by have := HR3.out.lt; omega))
  have h4lt : b4 < w5.heap.size := HR4.out.lt
  have HR4 := Lib.hid ((HR4.out.keep hb8 HR4.out.lt).other hon9 (by have := HR4.out.lt; omega))
  have HR10 := Lib.hid hrow9
  have HB := Lib.hid ((HB.out.trans (hb8.mono HB.out.size)).trans (hon9.below HB.out.size))
  clear hon9 hrow9 hb8 hr0
  obtain ⟨b10, hb10⟩ : ∃ b10, b10 = w5.heap.size := ⟨_, rfl⟩
  rw [← hb10] at HR10 h4lt ⊢
  clear hb10
  go_wp2_with fail
  refine (same_iface 4 _ (HL.out.keep HB.out) (by omega) (by decide)).mono ?_
  rintro e0 w6 ⟨rfl, hb9⟩
  have HR3 := Lib.hid (HR3.out.keep hb9 HR3.out.lt)
  have HR4 := Lib.hid (HR4.out.keep hb9 HR4.out.lt)
  have HR10 := Lib.hid (HR10.out.keep hb9 HR10.out.lt)
  have HB := Lib.hid (HB.out.trans (hb9.mono HB.out.size))
  clear hb9
  go_upto_region 14 with fail
  have hr13 := row_alloc w6 24 noRul
  have HR13 : Hid (Row (w6.alloc (.cells #[.int .i64 0, .int .i64 0, .int .i64 0, .int .i64 0, .int .i64 0, .slice none 0 0, .string ⟨#[]⟩] 24)) w6.heap.size 24 noRul) := hr13
  have hb8 : Below w6.heap.size w6 (w6.alloc (.cells #[.int .i64 0, .int .i64 0, .int .i64 0, .int .i64 0, .int .i64 0, .slice none 0 0, .string ⟨#[]⟩] 24)) := (Below.refl _ _).alloc (Nat.le_refl _) _
  have h1013 : b10 < w6.heap.size := HR10.out.lt
  clear hr13
  have HR3 := Lib.hid (HR3.out.keep hb8 HR3.out.lt)
  have HR4 := Lib.hid (HR4.out.keep hb8 HR4.out.lt)
  have HR10 := Lib.hid (HR10.out.keep hb8 HR10.out.lt)
  have HB := Lib.hid (HB.out.trans (hb8.mono HB.out.size))
  clear hb8
  obtain ⟨b13, hb13⟩ : ∃ b13, b13 = w6.heap.size := ⟨_, rfl⟩
  rw [← hb13] at HR13 h1013 ⊢
  clear hb13
  generalize w6.alloc (.cells #[.int .i64 0, .int .i64 0, .int .i64 0, .int .i64 0, .int .i64 0, .slice none 0 0, .string ⟨#[]⟩] 24) = w20 at *
  have l10 := row_range HR10.out
  have l13 := row_range HR13.out
  go_wp2_with (first | (refine wpList_load_mid rfl 24 _ rfl b10 0 rfl _ _ l10 Tryd.underlying24 rfl infoRule ?_) | (refine wpList_load_mid rfl 24 _ rfl b13 0 rfl _ _ l13 Tryd.underlying24 rfl infoRule ?_))
  clear l10 l13
  refine (sameNil_any _).mono ?_
  rintro e0 w7 ⟨rfl, hb9⟩
  have HR3 := Lib.hid (HR3.out.keep hb9 HR3.out.lt)
  have HR4 := Lib.hid (HR4.out.keep hb9 HR4.out.lt)
  have HR10 := Lib.hid (HR10.out.keep hb9 HR10.out.lt)
  have HR13 := Lib.hid (HR13.out.keep hb9 HR13.out.lt)
  have HB := Lib.hid (HB.out.trans (hb9.mono HB.out.size))
  clear hb9
  go_upto_if 67 with fail
  go_step
  go_step
  go_step
  rename_i hKK
  refine hKK _ _ ?_
  clear hKK
  refine half2 K B S (st : Nat) (ra : Nat) ta tn tc tz tu q 0 b3 b10 b13 (noRul) (noRul) w _ HL HT hu HWD.out HB HR3 HR10 HR13 (show (noRul).length = 7 from rfl) (show (noRul).length = 7 from rfl) (by omega) (by omega) (by omega) (by omega) _ _ _ _ _ _ _ _ _ _ _ _ _ _ _ _ _ _ _ _ _ _ _ _ _ _ _ _ _ _ _ _ _ _ _ _ _ _ _ _ _ _ _ _ _ _ _ _ _ _ _ _ _ _ _ _ _ _ _ _ _ _ _ _ _ _ _ _ _ _ _ _ _ _ _ _ _ _ _ _ _ _ _ _ _ _ _ _ _ _ _ _ _ _ _ _ _ _ _ _ _ _ _ _ ?_
  intro u7 u11 u12 u14 u15 u68 u69 u70 u71 u72 u73 u74 u75 u76 u77 u78 u79 u80 u81 u82 u83 u84 u85 u86 u87 u88 u89 u90 u91 u92 u93 u94 u95 u96 u97 u98 u99 u100 u101 u102 u103 u104 u105 u106 u107 w30 hb30
  go_ret
  exact ⟨rfl, hb30⟩
set_option maxHeartbeats 8000000 in
set_option maxRecDepth 1000000 in
theorem makes5 (K B S : Int) (st ra : Nat) (ta : Option Addr) (tn tc : Nat) (tz : List Int) (tu : ByteArray) (K' B' S' : Int) (rb : Nat) (tb : Option Addr) (tm td : Nat) (tzb : List Int) (tu' : ByteArray) (q : Int) (w : World) (hL : Tld.Laid w) (hT : Ints.Is w ta tn tz) (hu : tu.size ≤ 9223372036854775807) (hT' : Ints.Is w tb tm tzb) (hu' : tu'.size ≤ 9223372036854775807) (ha : lfault K B S st ra tz tu = 0) (hb : lfault K' B' S' st rb tzb tu' = 0) (N : Nat) (hN : N = st ^ (2 * (ra + rb) + 1)) (hN4 : N ≤ 4096) :
    Calls Tryd.prog 5 #[.agg #[.int .i64 K, .int .i64 B, .int .i64 S, .int .i64 (st : Nat), .int .i64 (ra : Nat), .slice ta tn tc, .string tu], .agg #[.int .i64 K', .int .i64 B', .int .i64 S', .int .i64 (st : Nat), .int .i64 (rb : Nat), .slice tb tm td, .string tu'], .int .i64 q] w fun e w' => e = .returned (.bool true) ∧ Below w.heap.size w w' := by
  have HL := Lib.hid hL
  have HT := Lib.hid hT
  have HT' := Lib.hid hT'
  have HWD := Lib.hid (wide_of (K := K) (B := B) (S := S) (st := (st : Nat)) (ra := (ra : Nat)) (tz := tz) (tu := tu) (q := q))
  rw [ha] at HWD
  have HFA := Lib.hid (fun w2 (h2 : Below w.heap.size w w2) => fault2_any K B S (st : Nat) (ra : Nat) ta tn tc tz tu none 0 0 [] w2 (hT.keep h2) hu (Ints.Is.nil w2))
  rw [wfault_nil, ha] at HFA
  unfold rulL at HFA
  have HFB := Lib.hid (fun w2 (h2 : Below w.heap.size w w2) => fault2_any K' B' S' (st : Nat) (rb : Nat) tb tm td tzb tu' none 0 0 [] w2 (hT'.keep h2) hu' (Ints.Is.nil w2))
  rw [wfault_nil, hb] at HFB
  unfold rulL at HFB
  obtain ⟨s', r', es, er, h2, h4, hr5, htn, htl, htz⟩ := (lfault_01 ha).nat hT.len
  obtain rfl : st = s' := by omega
  obtain rfl : ra = r' := by omega
  obtain ⟨s2, r2, es2, er2, _, _, hr52, htn2, htl2, htz2⟩ := (lfault_01 hb).nat hT'.len
  obtain rfl : st = s2 := by omega
  obtain rfl : rb = r2 := by omega
  obtain ⟨rr, hrr⟩ : ∃ rr, rr = ra + rb := ⟨_, rfl⟩
  have hrI : (ra : Int) + (rb : Int) = (rr : Int) := by omega
  have hrr10 : rr ≤ 10 := by omega
  have HSZ := Lib.hid (fun w2 => size2_any (st := st) (r := rr) h2 h4 (by omega) w2)
  rw [show s5 st rr = N from by unfold s5; rw [hrr, ← hN, if_neg (by omega)]] at HSZ
  have dN : decide ((4096 : Int) < (N : Int)) = false := decide_eq_false (by omega)
  have nN : ¬ (4096 : Int) < (N : Int) := by omega
  have HA := Lib.hid ha
  have HBB := Lib.hid hb
  have HN := Lib.hid hN
  have HRUA := Lib.hid (fun w2 (h3 : Below w.heap.size w w2) => (RulIs.keep ⟨hT, h2, h4, hr5, htn, htl, htz⟩ h3 : RulIs w2 st ra ta tn tz))
  have HRUB := Lib.hid (fun w2 (h3 : Below w.heap.size w w2) => (RulIs.keep ⟨hT', h2, h4, hr52, htn2, htl2, htz2⟩ h3 : RulIs w2 st rb tb tm tzb))
  have HCOK := Lib.hid (fun w2 (h3 : Below w.heap.size w w2) => compose_ok K B S st ra ta tn tc tz tu K' B' S' rb tb tm td tzb tu' w2 (hT.keep h3) hu (hT'.keep h3) hu' HA.out HBB.out N HN.out hN4)
  have HCO2 := Lib.hid (fun w2 (h3 : Below w.heap.size w w2) => compose2_any K B S st ra ta tn tc tz tu K' B' S' rb tb tm td tzb tu' N w2 (HRUA.out _ h3) (HRUB.out _ h3) HN.out hN4)
  rw [← hrr] at HCOK HCO2
  clear htn htl htz es er es2 er2 htn2 htl2 htz2 hrr
  clear hN
  have bst : ((st : Int) != (st : Int)) = false := by rw [bne_self_eq_false]
  clear hL hT hT' ha hb
  go_enter Tryd.func5, Tryd.ntmps5
  go_upto_region 1 with fail
  obtain ⟨hR3, hR4, hB⟩ := two_new w 24 24 (rulL K B S (st : Nat) (ra : Nat) ta tn tc tu) (rulL K' B' S' (st : Nat) (rb : Nat) tb tm td tu')
  have HR3 : Hid (Row ((w.alloc (.cells #[.int .i64 K, .int .i64 B, .int .i64 S, .int .i64 (st : Nat), .int .i64 (ra : Nat), .slice ta tn tc, .string tu] 24)).alloc (.cells #[.int .i64 K', .int .i64 B', .int .i64 S', .int .i64 (st : Nat), .int .i64 (rb : Nat), .slice tb tm td, .string tu'] 24)) w.heap.size 24 (rulL K B S (st : Nat) (ra : Nat) ta tn tc tu)) := hR3
  have HR4 : Hid (Row ((w.alloc (.cells #[.int .i64 K, .int .i64 B, .int .i64 S, .int .i64 (st : Nat), .int .i64 (ra : Nat), .slice ta tn tc, .string tu] 24)).alloc (.cells #[.int .i64 K', .int .i64 B', .int .i64 S', .int .i64 (st : Nat), .int .i64 (rb : Nat), .slice tb tm td, .string tu'] 24)) (w.heap.size + 1) 24 (rulL K' B' S' (st : Nat) (rb : Nat) tb tm td tu')) := hR4
  have HB : Hid (Below w.heap.size w ((w.alloc (.cells #[.int .i64 K, .int .i64 B, .int .i64 S, .int .i64 (st : Nat), .int .i64 (ra : Nat), .slice ta tn tc, .string tu] 24)).alloc (.cells #[.int .i64 K', .int .i64 B', .int .i64 S', .int .i64 (st : Nat), .int .i64 (rb : Nat), .slice tb tm td, .string tu'] 24))) := hB
  clear hR3 hR4 hB
  generalize (w.alloc (.cells #[.int .i64 K, .int .i64 B, .int .i64 S, .int .i64 (st : Nat), .int .i64 (ra : Nat), .slice ta tn tc, .string tu] 24)).alloc (.cells #[.int .i64 K', .int .i64 B', .int .i64 S', .int .i64 (st : Nat), .int .i64 (rb : Nat), .slice tb tm td, .string tu'] 24) = w1 at *
  obtain ⟨b3, hb3⟩ : ∃ b3, b3 = w.heap.size := ⟨_, rfl⟩
  obtain ⟨b4, hb4⟩ : ∃ b4, b4 = w.heap.size + 1 := ⟨_, rfl⟩
  rw [← hb4] at HR4 ⊢
  rw [← hb3] at HR3 ⊢
  have hle3 : w.heap.size ≤ b3 := by omega
  have h34 : b3 < b4 := by omega
  clear hb3 hb4
  have l3 := row_range HR3.out
  go_wp2_with (refine wpList_load_mid rfl 24 _ rfl b3 0 rfl _ _ l3 Tryd.underlying24 rfl infoRule ?_)
  clear l3
  refine (HFA.out _ HB.out).mono ?_
  rintro e0 w2 ⟨rfl, hb9⟩
  have HR3 := Lib.hid (HR3.out.keep hb9 HR3.out.lt)
  have HR4 := Lib.hid (HR4.out.keep hb9 HR4.out.lt)
  have HB := Lib.hid (HB.out.trans (hb9.mono HB.out.size))
  clear hb9
  clear HFA
  have l4 := row_range HR4.out
  go_wp2_with (refine wpList_load_mid rfl 24 _ rfl b4 0 rfl _ _ l4 Tryd.underlying24 rfl infoRule ?_)
  clear l4
  refine (HFB.out _ HB.out).mono ?_
  rintro e0 w3 ⟨rfl, hb9⟩
  have HR3 := Lib.hid (HR3.out.keep hb9 HR3.out.lt)
  have HR4 := Lib.hid (HR4.out.keep hb9 HR4.out.lt)
  have HB := Lib.hid (HB.out.trans (hb9.mono HB.out.size))
  clear hb9
  clear HFB
  have f3 := HR3.out.cell 3
  have f4 := HR3.out.cell 4
  have g3 := HR4.out.cell 3
  have g4 := HR4.out.cell 4
  unfold rulL at f3 f4 g3 g4
  dsimp only [List.getElem?_cons_succ, List.getElem?_cons_zero] at f3 f4 g3 g4
  go_wp2_with fail
  refine (HSZ.out _).mono ?_
  rintro e0 w4 ⟨rfl, rfl⟩
  clear HSZ
  have l3 := row_range HR3.out
  have l4 := row_range HR4.out
  go_wp2_with (first | (refine wpList_load_mid rfl 24 _ rfl b3 0 rfl _ _ l3 Tryd.underlying24 rfl infoRule ?_) | (refine wpList_load_mid rfl 24 _ rfl b4 0 rfl _ _ l4 Tryd.underlying24 rfl infoRule ?_))
  clear l3 l4
  clear f3 f4 g3 g4
  have hb4l := HR4.out.lt
  refine (HCOK.out _ HB.out).mono ?_
  rintro e0 w5 ⟨⟨g, rfl, hg, hig⟩, hb9⟩
  have HIG := Lib.hid hig
  clear hig
  have HR3 := Lib.hid (HR3.out.keep hb9 HR3.out.lt)
  have HR4 := Lib.hid (HR4.out.keep hb9 HR4.out.lt)
  have HB := Lib.hid (HB.out.trans (hb9.mono HB.out.size))
  clear hb9
  have hr0 : Row (w5.alloc (.cells #[.int .i64 0, .int .i64 0, .int .i64 0, .int .i64 0, .int .i64 0, .slice none 0 0, .string ⟨#[]⟩] 24)) w5.heap.size 24 noRul := row_alloc w5 24 noRul
  have hb8 : Below w5.heap.size w5 (w5.alloc (.cells #[.int .i64 0, .int .i64 0, .int .i64 0, .int .i64 0, .int .i64 0, .slice none 0 0, .string ⟨#[]⟩] 24)) := (Below.refl _ _).alloc (Nat.le_refl _) _
  have hXF := far_of HIG.out (Nat.le_refl _)
  go_upto_region 12 with (refine Ops.wpList_store_arr rfl 24 _ _ rfl (w5.heap.size) rfl 24 _ (rulL 2 0 0 st (rr : Nat) (some ⟨g, 0, none⟩) N N ⟨#[]⟩) rfl hr0 rfl infoRule (rul_one _ _ _ _ _ _ _ _ _) ?_; intro w9 hrow9 hon9)
  have HR3 := Lib.hid ((HR3.out.keep hb8 HR3.out.lt).other hon9 (by have := HR3.out.lt; omega))
  have h4lt : b4 < w5.heap.size := HR4.out.lt
  have HR4 := Lib.hid ((HR4.out.keep hb8 HR4.out.lt).other hon9 (by have := HR4.out.lt; omega))
  have HIG := Lib.hid (is_only (HIG.out.keep hb8) hXF hon9)
  clear hXF
  have HR10 := Lib.hid hrow9
  have HB := Lib.hid ((HB.out.trans (hb8.mono HB.out.size)).trans (hon9.below HB.out.size))
  clear hon9 hrow9 hb8 hr0
  obtain ⟨b10, hb10⟩ : ∃ b10, b10 = w5.heap.size := ⟨_, rfl⟩
  rw [← hb10] at HR10 h4lt ⊢
  clear hb10
  go_wp2_with fail
  refine (same_nil _ (HL.out.keep HB.out)).mono ?_
  rintro e0 w6 ⟨rfl, hb9⟩
  have HR3 := Lib.hid (HR3.out.keep hb9 HR3.out.lt)
  have HR4 := Lib.hid (HR4.out.keep hb9 HR4.out.lt)
  have HIG := Lib.hid (HIG.out.keep hb9)
  have HR10 := Lib.hid (HR10.out.keep hb9 HR10.out.lt)
  have HB := Lib.hid (HB.out.trans (hb9.mono HB.out.size))
  clear hb9
  go_upto_region 14 with fail
  have hr13 := row_alloc w6 24 noRul
  have HR13 : Hid (Row (w6.alloc (.cells #[.int .i64 0, .int .i64 0, .int .i64 0, .int .i64 0, .int .i64 0, .slice none 0 0, .string ⟨#[]⟩] 24)) w6.heap.size 24 noRul) := hr13
  have hb8 : Below w6.heap.size w6 (w6.alloc (.cells #[.int .i64 0, .int .i64 0, .int .i64 0, .int .i64 0, .int .i64 0, .slice none 0 0, .string ⟨#[]⟩] 24)) := (Below.refl _ _).alloc (Nat.le_refl _) _
  have h1013 : b10 < w6.heap.size := HR10.out.lt
  have hXF := far_of HIG.out (Nat.le_refl _)
  clear hr13
  have HR3 := Lib.hid (HR3.out.keep hb8 HR3.out.lt)
  have HR4 := Lib.hid (HR4.out.keep hb8 HR4.out.lt)
  have HIG := Lib.hid (HIG.out.keep hb8)
  have HR10 := Lib.hid (HR10.out.keep hb8 HR10.out.lt)
  have HB := Lib.hid (HB.out.trans (hb8.mono HB.out.size))
  clear hb8
  obtain ⟨b13, hb13⟩ : ∃ b13, b13 = w6.heap.size := ⟨_, rfl⟩
  rw [← hb13] at HR13 h1013 hXF ⊢
  clear hb13
  generalize w6.alloc (.cells #[.int .i64 0, .int .i64 0, .int .i64 0, .int .i64 0, .int .i64 0, .slice none 0 0, .string ⟨#[]⟩] 24) = w20 at *
  have HXF := Lib.hid hXF
  clear hXF
  have l3 := row_range HR3.out
  have l4 := row_range HR4.out
  go_wp2_with (first | (refine wpList_load_mid rfl 24 _ rfl b3 0 rfl _ _ l3 Tryd.underlying24 rfl infoRule ?_) | (refine wpList_load_mid rfl 24 _ rfl b4 0 rfl _ _ l4 Tryd.underlying24 rfl infoRule ?_))
  clear l3 l4
  have hb13l := HR13.out.lt
  refine (HCO2.out _ HB.out).mono ?_
  rintro e0 w7 ⟨⟨ao, co, rfl, hown⟩, hb9⟩
  have HOWN := Lib.hid hown
  clear hown
  have HR3 := Lib.hid (HR3.out.keep hb9 HR3.out.lt)
  have HR4 := Lib.hid (HR4.out.keep hb9 HR4.out.lt)
  have HIG := Lib.hid (HIG.out.keep hb9)
  have HR10 := Lib.hid (HR10.out.keep hb9 HR10.out.lt)
  have HR13 := Lib.hid (HR13.out.keep hb9 HR13.out.lt)
  have HB := Lib.hid (HB.out.trans (hb9.mono HB.out.size))
  clear hb9
  have hne : Value.ownBlock (.slice ao N co) ≠ some b13 := fun hx => by have := own_low HOWN.out b13 hx; omega
  clear hb13l
  go_upto_region 16 with (refine Ops.wpList_store_arr rfl 24 _ _ rfl (b13) rfl 24 _ (rulL 2 0 0 st (rr : Nat) ao N co ⟨#[]⟩) rfl HR13.out rfl infoRule (rul_one _ _ _ _ _ _ _ _ _) ?_; intro w9 hrow9 hon9)
  have HOWN := Lib.hid (own_only HOWN.out hon9 hne)
  have HR3 := Lib.hid (HR3.out.other hon9 (by omega))
  have HR4 := Lib.hid (HR4.out.other hon9 (by omega))
  have HR10 := Lib.hid (HR10.out.other hon9 (by omega))
  have HIG := Lib.hid (is_only HIG.out HXF.out hon9)
  have HR13 := Lib.hid hrow9
  have HB := Lib.hid (HB.out.trans (hon9.below (by omega)))
  clear hon9 hrow9
  have l10 := row_range HR10.out
  have l13 := row_range HR13.out
  go_wp2_with (first | (refine wpList_load_mid rfl 24 _ rfl b10 0 rfl _ _ l10 Tryd.underlying24 rfl infoRule ?_) | (refine wpList_load_mid rfl 24 _ rfl b13 0 rfl _ _ l13 Tryd.underlying24 rfl infoRule ?_))
  clear l10 l13
  refine (same2_any 2 0 0 st (rr : Nat) (some ⟨g, 0, none⟩) ao N N N co _ ⟨#[]⟩ _ HIG.out (own_is HOWN.out lst_len (by unfold maxLen; omega)).1).mono ?_
  rintro e0 w8 ⟨rfl, hb9⟩
  have HR3 := Lib.hid (HR3.out.keep hb9 HR3.out.lt)
  have HR4 := Lib.hid (HR4.out.keep hb9 HR4.out.lt)
  have HIG := Lib.hid (HIG.out.keep hb9)
  have HR10 := Lib.hid (HR10.out.keep hb9 HR10.out.lt)
  have HR13 := Lib.hid (HR13.out.keep hb9 HR13.out.lt)
  have HOWN := Lib.hid (own_keep HOWN.out hb9)
  have HB := Lib.hid (HB.out.trans (hb9.mono HB.out.size))
  clear hb9
  go_upto_if 67 with fail
  go_step
  go_step
  go_step
  rename_i hKK
  refine hKK _ _ ?_
  clear hKK
  refine half2 K B S (st : Nat) (ra : Nat) ta tn tc tz tu q 0 b3 b10 b13 (rulL 2 0 0 st (rr : Nat) (some ⟨g, 0, none⟩) N N ⟨#[]⟩) (rulL 2 0 0 st (rr : Nat) ao N co ⟨#[]⟩) w _ HL HT hu HWD.out HB HR3 HR10 HR13 (show (rulL 2 0 0 st (rr : Nat) (some ⟨g, 0, none⟩) N N ⟨#[]⟩).length = 7 from rfl) (show (rulL 2 0 0 st (rr : Nat) ao N co ⟨#[]⟩).length = 7 from rfl) (by omega) (by omega) (by omega) (by omega) _ _ _ _ _ _ _ _ _ _ _ _ _ _ _ _ _ _ _ _ _ _ _ _ _ _ _ _ _ _ _ _ _ _ _ _ _ _ _ _ _ _ _ _ _ _ _ _ _ _ _ _ _ _ _ _ _ _ _ _ _ _ _ _ _ _ _ _ _ _ _ _ _ _ _ _ _ _ _ _ _ _ _ _ _ _ _ _ _ _ _ _ _ _ _ _ _ _ _ _ _ _ _ _ ?_
  intro u7 u11 u12 u14 u15 u68 u69 u70 u71 u72 u73 u74 u75 u76 u77 u78 u79 u80 u81 u82 u83 u84 u85 u86 u87 u88 u89 u90 u91 u92 u93 u94 u95 u96 u97 u98 u99 u100 u101 u102 u103 u104 u105 u106 u107 w30 hb30
  go_ret
  exact ⟨rfl, hb30⟩
theorem lineMakes_any (K B S st ra : Int) (ta : Option Addr) (tn tc : Nat) (tz : List Int) (tu : ByteArray) (K' B' S' st' rb : Int) (tb : Option Addr) (tm td : Nat) (tzb : List Int) (tu' : ByteArray) (q : Int) (w : World) (hL : Tld.Laid w) (hT : Ints.Is w ta tn tz) (hu : tu.size ≤ 9223372036854775807) (hT' : Ints.Is w tb tm tzb) (hu' : tu'.size ≤ 9223372036854775807) :
    Calls Tryd.prog 5 #[.agg #[.int .i64 K, .int .i64 B, .int .i64 S, .int .i64 st, .int .i64 ra, .slice ta tn tc, .string tu], .agg #[.int .i64 K', .int .i64 B', .int .i64 S', .int .i64 st', .int .i64 rb, .slice tb tm td, .string tu'], .int .i64 q] w fun e w' => e = .returned (.bool true) ∧ Below w.heap.size w w' := by
  classical
  by_cases ho : Ok K B S st ra tz tu
  · have ha := lfault_ok ho
    obtain ⟨s, r, rfl, rfl, h2, h4, hr5, _, _, _⟩ := ho.nat hT.len
    by_cases ho' : Ok K' B' S' st' rb tzb tu'
    · have hb := lfault_ok ho'
      obtain ⟨s', r', rfl, rfl, _, _, hr5', _, _, _⟩ := ho'.nat hT'.len
      by_cases hst : s = s'
      · subst hst
        by_cases hbig : 4096 < s ^ (2 * (r + r') + 1)
        · exact makes4 K B S s r ta tn tc tz tu K' B' S' r' tb tm td tzb tu' q w hL hT hu hT' hu' ha hb hbig
        · exact makes5 K B S s r ta tn tc tz tu K' B' S' r' tb tm td tzb tu' q w hL hT hu hT' hu' ha hb _ rfl (by omega)
      · exact makes3 K B S s r ta tn tc tz tu K' B' S' s' r' tb tm td tzb tu' q w hL hT hu hT' hu' ha hb hst
    · exact makes2 K B S s r ta tn tc tz tu K' B' S' st' rb tb tm td tzb tu' q w hL hT hu hT' hu' ha (lfault_no ho')
  · exact makes1 K B S st ra ta tn tc tz tu K' B' S' st' rb tb tm td tzb tu' q w hL hT hu hT' hu' (lfault_no ho)
end Ln
end Go.Proofs.YtgefikkklbjcbaaDoor
