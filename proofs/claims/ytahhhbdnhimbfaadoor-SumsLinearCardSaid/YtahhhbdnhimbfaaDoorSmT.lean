/- WALK: (sums.circle).times, sums.Linear. -/
import Derived.Test.YtahhhbdnhimbfaaDoorSmK
import Derived.Test.YtahhhbdnhimbfaaDoorSmJ
namespace Go.Proofs.YtahhhbdnhimbfaaDoor
set_option linter.unusedSimpArgs false
set_option linter.unusedVariables false
open Go.RowKit
namespace Ln
open Tld Mem Sm

/-- What is added up so far. -/
def acc (A B : Nat → Nat) (n i j k : Nat) : Nat := sumN (fun a => sumN (fun b => if (a + b) % n = k then A a * B b else 0) n) i + sumN (fun b => if (i + b) % n = k then A i * B b else 0) j
theorem acc_zero (A B : Nat → Nat) (n k : Nat) : acc A B n 0 0 k = 0 := rfl
theorem acc_next (A B : Nat → Nat) (n i j k : Nat) : acc A B n i (j + 1) k = acc A B n i j k + (if (i + j) % n = k then A i * B j else 0) := by
  unfold acc
  rw [show sumN (fun b => if (i + b) % n = k then A i * B b else 0) (j + 1) = sumN (fun b => if (i + b) % n = k then A i * B b else 0) j + (if (i + j) % n = k then A i * B j else 0) from rfl, Nat.add_assoc]
theorem acc_row (A B : Nat → Nat) (n i k : Nat) : acc A B n i n k = acc A B n (i + 1) 0 k := rfl
theorem acc_skip {A B : Nat → Nat} {n i k : Nat} (h : A i = 0) : acc A B n (i + 1) 0 k = acc A B n i 0 k := by
  rw [← acc_row]
  unfold acc
  congr 1
  exact (sumN_congr (G := fun _ => 0) fun b _ => by rw [h, Nat.zero_mul]; split <;> rfl).trans sumN_zero
theorem acc_conv (A B : Nat → Nat) (n k : Nat) : acc A B n n 0 k = conv n A B k := rfl
theorem lst_set {n k0 v : Nat} {F G : Nat → Nat} (h1 : v = G k0) (h2 : ∀ k, k < n → k ≠ k0 → F k = G k) : (lst n F).set k0 ((v : Nat) : Int) = lst n G := by
  apply List.ext_getElem (by simp [lst])
  intro i hi1 hi2
  have hin : i < n := by rw [lst_len] at hi2; exact hi2
  rw [List.getElem_set]
  by_cases e : k0 = i
  · subst e
    rw [if_pos rfl]
    simp [lst, h1]
  · rw [if_neg e]
    simp [lst, h2 i hin (fun h => e h.symm)]
theorem lst_getI {n k : Nat} {F : Nat → Nat} (h : k < n) : ((lst n F).map (Value.int .i64))[k]? = some (.int .i64 ((F k : Nat) : Int)) := by
  simp [lst, List.getElem?_range h]
set_option maxHeartbeats 8000000 in
set_option maxRecDepth 1000000 in
theorem times_any (aa ab : Option Addr) (n ca cb m : Nat) (az bz : List Int) (w : World) (hA : Ints.Is w aa n az) (hB : Ints.Is w ab n bz) (hm1 : 1 ≤ m) (hm : m ≤ 4) (ha : ∀ z ∈ az, 0 ≤ z ∧ z < ((4 : Nat) : Int)) (hb : ∀ z ∈ bz, 0 ≤ z ∧ z < ((4 : Nat) : Int)) (hn : n ≤ 10000) :
    Calls Tryd.prog 24 #[.slice aa n ca, .slice ab n cb, .int .i64 m] w fun e w' => (∃ g, e = .returned (.slice (some ⟨g, 0, none⟩) n n) ∧ Ints.Is w' (some ⟨g, 0, none⟩) n (lst n (fun k => conv n (wf az) (wf bz) k % m))) ∧ Below w.heap.size w w' := by
  obtain ⟨i0, hI0, hz0, hz1, hz2⟩ := info_parts infoIntN
  have HI0 := Lib.hid hI0
  have HZ0 := Lib.hid hz0
  have HZ1 := Lib.hid hz1
  have HZ2 := Lib.hid hz2
  have HA := Lib.hid hA
  have HBB := Lib.hid hB
  have HAV := Lib.hid (wf_at (zs := az) fun z hz => (ha z hz).1)
  have HBV := Lib.hid (wf_at (zs := bz) fun z hz => (hb z hz).1)
  have HAL := Lib.hid (wf_lt (st := 4) (by omega) ha)
  have HBL := Lib.hid (wf_lt (st := 4) (by omega) hb)
  obtain ⟨A, hAe⟩ : ∃ A, A = wf az := ⟨_, rfl⟩
  obtain ⟨B, hBe⟩ : ∃ B, B = wf bz := ⟨_, rfl⟩
  rw [← hAe] at HAV HAL ⊢
  rw [← hBe] at HBV HBL ⊢
  clear hI0 hz0 hz1 hz2 hA hB ha hb hAe hBe
  have hm0 : ((m : Int) == 0) = false := by rw [beq_eq_false_iff_ne]; omega
  have hm00 : ¬ m = 0 := by omega
  go_enter Tryd.func24, Tryd.ntmps24
  go_wp2_with (refine Ops.wpList_make rfl 50 _ _ rfl 3 i0 (.int .i64 0) Tryd.underlying50 HI0.out HZ0.out rfl HZ1.out (by rw [HZ2.out]; decide) n rfl rfl (by omega) ?_; intro g w1 hg hb1 hR1)
  have HR : Hid (Row w1 g 3 ((lst n (fun k => acc A B n 0 0 k % m)).map (Value.int .i64))) := by
    show Row w1 g 3 _
    rw [show lst n (fun k => acc A B n 0 0 k % m) = List.replicate n 0 from by
      apply List.ext_getElem (by simp [lst])
      intro i h1 h2
      simp [lst, acc_zero], List.map_replicate]
    exact hR1
  have HB := Lib.hid hb1
  have HG : Hid (w.heap.size ≤ g) := hg
  clear hR1 hb1 hg
  go_loopw [18] (fun u wr => ∃ i : Nat, i ≤ n ∧ u = .int .i64 i ∧ Row wr g 3 ((lst n (fun k => acc A B n i 0 k % m)).map (Value.int .i64)) ∧ Below w.heap.size w wr) (fun u _ => n - (intOf u).toNat)
  case atStart => exact ⟨0, Nat.zero_le _, rfl, HR.out, HB.out⟩
  case round =>
    clear HR HB
    obtain ⟨i, hi, rfl, hR, hbel⟩ := hrel
    have HR := Lib.hid hR
    have HB := Lib.hid hbel
    clear hR hbel
    by_cases hlt : i < n
    · obtain ⟨ba, oa, rfl, _, hca⟩ := (HA.out.keep HB.out).cells i hlt
      dsimp only at hca
      rw [HAV.out] at hca
      have hal := HAL.out i
      obtain ⟨x, hx⟩ : ∃ x, x = A i := ⟨_, rfl⟩
      have HX := Lib.hid hx
      rw [← hx] at hca hal
      clear hx
      by_cases hx0 : x = 0
      · have HSK : Hid (lst n (fun k => acc A B n (i + 1) 0 k % m) = lst n (fun k => acc A B n i 0 k % m)) := lst_congr fun k _ => by rw [acc_skip (by rw [← HX.out]; exact hx0)]
        subst hx0
        go_wp2_with fail
        go_roundw
        case rel => exact ⟨i + 1, by omega, by go_num, by rw [HSK.out]; exact HR.out, HB.out⟩
        case measure => simp [intOf]; omega
      · have bx0 : ((x : Int) == 0) = false := by rw [beq_eq_false_iff_ne]; omega
        have hx1 : 1 ≤ x := by omega
        clear hx0
        go_wp2_with fail
        obtain ⟨wo, rfl⟩ : ∃ wo : World, wo = wr := ⟨_, rfl⟩
        go_loopw [27] (fun u wr => ∃ j : Nat, j ≤ n ∧ u = .int .i64 j ∧ Row wr g 3 ((lst n (fun k => acc A B n i j k % m)).map (Value.int .i64)) ∧ Below w.heap.size w wr) (fun u _ => n - (intOf u).toNat)
        case atStart => exact ⟨0, Nat.zero_le _, rfl, HR.out, HB.out⟩
        case round =>
          clear HR HB
          obtain ⟨j, hj, rfl, hR, hbel⟩ := hrel
          have HR := Lib.hid hR
          have HB := Lib.hid hbel
          clear hR hbel
          by_cases hjl : j < n
          · obtain ⟨bb, ob, rfl, _, hcb⟩ := (HBB.out.keep HB.out).cells j hjl
            dsimp only at hcb
            rw [HBV.out] at hcb
            have hbl := HBL.out j
            obtain ⟨k0, hk0⟩ : ∃ k0, k0 = (i + j) % n := ⟨_, rfl⟩
            have hk0n : k0 < n := by rw [hk0]; exact Nat.mod_lt _ (by omega)
            have hkm : ((i : Int) + (j : Int)).tmod (n : Int) = (k0 : Int) := by
              rw [hk0, show ((i : Int) + (j : Int)) = ((i + j : Nat) : Int) from by push_cast; rfl]
              exact Int.ofNat_tmod _ _
            have hn0 : ((n : Int) == 0) = false := by rw [beq_eq_false_iff_ne]; omega
            have hn00 : ¬ n = 0 := by omega
            have hcell := (HR.out.cell k0).trans (lst_getI hk0n)
            have hfrz := HR.out.frozen k0
            obtain ⟨ov, hov⟩ : ∃ ov, ov = acc A B n i j k0 % m := ⟨_, rfl⟩
            have hovm : ov < m := by rw [hov]; exact Nat.mod_lt _ (by omega)
            obtain ⟨y, hy⟩ : ∃ y, y = B j := ⟨_, rfl⟩
            obtain ⟨pr, hpr⟩ : ∃ pr, pr = x * y := ⟨_, rfl⟩
            have hpr16 : pr ≤ 16 := by
              have := Nat.mul_le_mul (show x ≤ 4 by omega) (show y ≤ 4 by rw [hy]; omega)
              omega
            obtain ⟨nv, hnv⟩ : ∃ nv, nv = (ov + pr) % m := ⟨_, rfl⟩
            have hset : Row (wr.setCell ⟨g, k0, none⟩ (.int .i64 ((nv : Nat) : Int))) g 3 ((lst n (fun k => acc A B n i (j + 1) k % m)).map (Value.int .i64)) := by
              have h := HR.out.set k0 (.int .i64 ((nv : Nat) : Int))
              rw [set_mapI, lst_set (G := fun k => acc A B n i (j + 1) k % m) (v := nv) ?_ ?_] at h
              · exact h
              · show nv = acc A B n i (j + 1) k0 % m
                rw [acc_next, if_pos hk0.symm, hnv, hov, hpr, hy, HX.out, Nat.mod_add_mod]
              · intro k hk hne
                show acc A B n i j k % m = acc A B n i (j + 1) k % m
                rw [acc_next, if_neg (fun h => hne (by rw [hk0]; exact h.symm)), Nat.add_zero]
            have HSET := Lib.hid hset
            have HB2 := Lib.hid (HB.out.trans ((only_setCell wr g k0 (.int .i64 ((nv : Nat) : Int))).below HG.out))
            have hmul : IntKind.i64.wrap ((x : Int) * (y : Int)) = (pr : Int) := by
              rw [show ((x : Int) * (y : Int)) = ((x * y : Nat) : Int) from by push_cast; rfl, ← hpr, IntKind.wrap_i64]; omega
            have hmod : ((ov : Int) + (pr : Int)).tmod (m : Int) = (nv : Int) := by
              rw [hnv, show ((ov : Int) + (pr : Int)) = ((ov + pr : Nat) : Int) from by push_cast; rfl]
              exact Int.ofNat_tmod _ _
            have hnvm : nv < m := by rw [hnv]; exact Nat.mod_lt _ (by omega)
            have hy4 : y < 4 := by rw [hy]; exact hbl
            rw [← hov] at hcell
            rw [← hy] at hcb
            clear hset HR HB hov hnv hk0 hpr hbl hy
            go_wp2_with fail
            go_roundw
            case rel => exact ⟨j + 1, by omega, by go_num, HSET.out, HB2.out⟩
            case measure => simp [intOf]; omega
          · have ej : j = n := by omega
            subst ej
            go_wp2_with fail
            go_roundw
            case rel => exact ⟨i + 1, by omega, by go_num, HR.out, HB.out⟩
            case measure => simp [intOf]; omega
    · have e : i = n := by omega
      subst e
      have HI := Lib.hid (row_isN HR.out lst_len (by unfold maxLen; omega))
      go_wp2_with fail
      go_ret
      exact ⟨⟨g, rfl, HI.out⟩, HB.out⟩
/-- The numbers that a table shows. -/
def cof (t : Nat → Nat) (st w i : Nat) : Nat := t (st ^ (w - 1 - i))
/-- A table that is a sum's. -/
def SumT (t : Nat → Nat) (st w : Nat) : Prop := ∀ N, N < st ^ w → t N = sumN (fun i => cof t st w i * dig st w N i) w % st
theorem sumR_of {t : Nat → Nat} {st R : Nat} (h : SumT t st (2 * R + 1)) : SumR t st R (cof t st (2 * R + 1)) := fun f hf => by
  rw [h _ (win_lt fun k _ => hf k)]
  congr 1
  exact sumN_congr fun i hi => by rw [dig_win (fun k _ => hf k) hi]
theorem tail_next {F : Nat → Nat} {w k : Nat} (hk : k < w) : sumN (fun i => if k ≤ i then F i else 0) w = sumN (fun i => if k + 1 ≤ i then F i else 0) w + F k := by
  have e : sumN (fun i => if k ≤ i then F i else 0) w = sumN (fun i => (if k + 1 ≤ i then F i else 0) + (if k = i then F i else 0)) w := sumN_congr fun i _ => by
    by_cases h : k = i
    · subst h; rw [if_pos (Nat.le_refl _), if_neg (by omega), if_pos rfl, Nat.zero_add]
    · rw [if_neg h, Nat.add_zero]
      by_cases h2 : k ≤ i
      · rw [if_pos h2, if_pos (by omega)]
      · rw [if_neg h2, if_neg (by omega)]
  rw [e, sumN_add, sumN_pick, if_pos hk]
theorem tail_end {F : Nat → Nat} {w : Nat} : sumN (fun i => if w ≤ i then F i else 0) w = 0 :=
  (sumN_congr (G := fun _ => 0) fun i hi => if_neg (by omega)).trans sumN_zero
theorem tail_all {F : Nat → Nat} {w : Nat} : sumN (fun i => if 0 ≤ i then F i else 0) w = sumN F w := sumN_congr fun i _ => if_pos (Nat.zero_le _)
theorem tail_le {F : Nat → Nat} {B w k : Nat} (h : ∀ i, i < w → F i ≤ B) : sumN (fun i => if k ≤ i then F i else 0) w ≤ B * w := by
  induction w with
  | zero => simp [sumN]
  | succ w ih =>
    have h1 := ih fun i hi => h i (by omega)
    have h2 := h w (by omega)
    show sumN _ w + (if k ≤ w then F w else 0) ≤ _
    rw [Nat.mul_add, Nat.mul_one]
    have : (if k ≤ w then F w else 0) ≤ B := by split <;> omega
    omega
set_option maxHeartbeats 8000000 in
set_option maxRecDepth 1000000 in
theorem linear_bad (K B S st ra : Int) (ta : Option Addr) (tn tc : Nat) (tz : List Int) (tu : ByteArray) (w : World) (hT : Ints.Is w ta tn tz) (hu : tu.size ≤ 9223372036854775807) (ha : lfault K B S st ra tz tu = 1) :
    Calls Tryd.prog 13 #[.agg #[.int .i64 K, .int .i64 B, .int .i64 S, .int .i64 st, .int .i64 ra, .slice ta tn tc, .string tu]] w fun e w' => e = .returned (.tuple #[.slice none 0 0, .iface 45 (.int .i64 1)]) ∧ Below w.heap.size w w' := by
  obtain ⟨hR, hB⟩ := row_rule w K B S st ra ta tn tc tu
  have HB := Lib.hid hB
  have HC := Lib.hid (wcheck_any K B S st ra ta tn tc tz tu none 0 0 [] _ (hT.keep hB) hu (Ints.Is.nil _))
  rw [wfault_nil, ha, errV_some (by decide)] at HC
  clear hR hB hT ha
  unfold rulL at HC
  go_enter Tryd.func13, Tryd.ntmps13
  go_wp2_with fail
  refine HC.out.mono ?_
  rintro e1 w1 ⟨rfl, hb1⟩
  have HB1 := Lib.hid (HB.out.trans (hb1.mono HB.out.size))
  clear hb1
  go_wp2_with fail
  go_ret2
  exact ⟨rfl, HB1.out⟩
set_option maxHeartbeats 8000000 in
set_option maxRecDepth 1000000 in
theorem linear_ok (K B S : Int) (st ra : Nat) (ta : Option Addr) (tn tc : Nat) (tz : List Int) (tu : ByteArray) (w : World) (hT : Ints.Is w ta tn tz) (hu : tu.size ≤ 9223372036854775807) (ha : lfault K B S st ra tz tu = 0) :
    Calls Tryd.prog 13 #[.agg #[.int .i64 K, .int .i64 B, .int .i64 S, .int .i64 st, .int .i64 ra, .slice ta tn tc, .string tu]] w fun e w' => ((∃ g, e = .returned (.tuple #[.slice (some ⟨g, 0, none⟩) (2 * ra + 1) (2 * ra + 1), .nilIface]) ∧ Ints.Is w' (some ⟨g, 0, none⟩) (2 * ra + 1) (lst (2 * ra + 1) (cof (wf tz) st (2 * ra + 1))) ∧ SumT (wf tz) st (2 * ra + 1)) ∨ (e = .returned (.tuple #[.slice none 0 0, .iface 45 (.int .i64 5)]) ∧ ¬ SumT (wf tz) st (2 * ra + 1))) ∧ Below w.heap.size w w' := by
  obtain ⟨s', r', es, er, h2, h4, hr5, htn, htl, htz⟩ := (lfault_01 ha).nat hT.len
  obtain rfl : st = s' := by omega
  obtain rfl : ra = r' := by omega
  clear es er
  obtain ⟨i0, hI0, hz0, hz1, hz2⟩ := info_parts infoIntN
  have HI0 := Lib.hid hI0
  have HZ0 := Lib.hid hz0
  have HZ1 := Lib.hid hz1
  have HZ2 := Lib.hid hz2
  obtain ⟨hR, hB⟩ := row_rule w K B S st ra ta tn tc tu
  have HR0 := Lib.hid hR
  have HB0 := Lib.hid hB
  have HC := Lib.hid (wcheck_any K B S st ra ta tn tc tz tu none 0 0 [] _ (hT.keep hB) hu (Ints.Is.nil _))
  rw [wfault_nil, ha, errV_zero rfl] at HC
  have HT := Lib.hid hT
  have HTV := Lib.hid (wf_at (zs := tz) fun z hz => (htz z hz).1)
  have HTL := Lib.hid (wf_lt (st := st) (by omega) htz)
  obtain ⟨ww, hww⟩ : ∃ ww, ww = 2 * ra + 1 := ⟨_, rfl⟩
  rw [← hww] at htn ⊢
  have hwi : 2 * (ra : Int) + 1 = (ww : Int) := by omega
  have hw11 : ww ≤ 11 := by omega
  have hw1 : 1 ≤ ww := by omega
  have HTN := Lib.hid htn
  obtain ⟨t, ht⟩ : ∃ t, t = wf tz := ⟨_, rfl⟩
  rw [← ht] at HTV HTL ⊢
  clear hI0 hz0 hz1 hz2 hR hB hT ha htn htz hww ht
  unfold rulL at HC
  go_enter Tryd.func13, Tryd.ntmps13
  go_wp2_with fail
  refine HC.out.mono ?_
  rintro e1 w1 ⟨rfl, hb1⟩
  have HR := Lib.hid (HR0.out.keep hb1 HR0.out.lt)
  have HB := Lib.hid (HB0.out.trans (hb1.mono HB0.out.size))
  clear hb1 HC HR0 HB0
  obtain ⟨b1, hb1⟩ : ∃ b1, b1 = w.heap.size := ⟨_, rfl⟩
  rw [← hb1] at HR ⊢
  have hle1 : w.heap.size ≤ b1 := by omega
  clear hb1
  have f4 := HR.out.cell 4
  unfold rulL at f4
  dsimp only [List.getElem?_cons_succ, List.getElem?_cons_zero] at f4
  go_upto_region 6 with (refine Ops.wpList_make rfl 22 _ _ rfl 3 i0 (.int .i64 0) Tryd.underlying22 HI0.out HZ0.out rfl HZ1.out (by rw [HZ2.out]; decide) ww rfl rfl (by omega) ?_; intro g w2 hg hb2 hRg)
  have h1g : b1 < g := by have := HR.out.lt; omega
  have HR := Lib.hid (HR.out.keep hb2 HR.out.lt)
  have HB := Lib.hid (HB.out.trans (hb2.mono HB.out.size))
  obtain ⟨xs, hxs⟩ : ∃ xs : List Int, xs = List.replicate ww 0 := ⟨_, rfl⟩
  have hxl : xs.length = ww := by rw [hxs]; simp
  have HX : Hid (Row w2 g 3 ((endI (cof t st ww) xs ww ww).map (Value.int .i64))) := by
    show Row w2 g 3 _
    rw [show endI (cof t st ww) xs ww ww = xs from by rw [← hxl]; exact endI_all _ _, hxs, List.map_replicate]; exact hRg
  clear f4 hb2 hg hRg hxs hxl
  go_wp2_with fail
  go_loopw [7, 8] (fun u v wr => ∃ k : Nat, k ≤ ww ∧ v = .int .i64 ((k : Int) - 1) ∧ u = .int .i64 ((st ^ (ww - k) : Nat) : Int) ∧ Row wr g 3 ((endI (cof t st ww) xs ww k).map (Value.int .i64)) ∧ Row wr b1 24 (rulL K B S st ra ta tn tc tu) ∧ Below w.heap.size w wr) (fun _ v _ => (intOf v + 1).toNat)
  case atStart => exact ⟨ww, Nat.le_refl _, rfl, by rw [Nat.sub_self, Nat.pow_zero]; rfl, HX.out, HR.out, HB.out⟩
  case round =>
    clear HX HR HB
    obtain ⟨k, hk, rfl, rfl, hX, hR, hbel⟩ := hrel
    have HX := Lib.hid hX
    have HR := Lib.hid hR
    have HB := Lib.hid hbel
    clear hX hR hbel
    have f3 := HR.out.cell 3
    have f5 := HR.out.cell 5
    unfold rulL at f3 f5
    dsimp only [List.getElem?_cons_succ, List.getElem?_cons_zero] at f3 f5
    by_cases hk0 : 0 < k
    · obtain ⟨j, rfl⟩ : ∃ j, k = j + 1 := ⟨k - 1, by omega⟩
      have hji : ((j + 1 : Nat) : Int) - 1 = (j : Int) := by omega
      rw [hji]
      have hjw : j < ww := by omega
      have hpn : st ^ (ww - (j + 1)) < tn := by rw [HTN.out]; exact Nat.pow_lt_pow_right (by omega) (by omega)
      have hpm : st ^ (ww - j) = st ^ (ww - (j + 1)) * st := by rw [← Nat.pow_succ]; congr 1; omega
      have hpl : st ^ (ww - j) ≤ tn := by rw [HTN.out]; exact Nat.pow_le_pow_right (by omega) (by omega)
      obtain ⟨bt, ot, rfl, _, hct⟩ := (HT.out.keep HB.out).cells _ hpn
      dsimp only at hct
      rw [HTV.out] at hct
      have hcv := HTL.out (st ^ (ww - (j + 1)))
      have hcof : cof t st ww j = t (st ^ (ww - (j + 1))) := by unfold cof; rw [show ww - 1 - j = ww - (j + 1) from by omega]
      have hcell := (HX.out.cell j).trans (show ((endI (cof t st ww) xs ww (j + 1)).map (Value.int .i64))[j]? = some (.int .i64 (xs.getD j 0)) by rw [List.getElem?_map, endI_get _ _ hjw, if_pos (by omega)]; rfl)
      have hfrz := HX.out.frozen j
      have hset := HX.out.set j (.int .i64 ((cof t st ww j : Nat) : Int))
      rw [set_mapI, endI_next _ _ hjw] at hset
      have ho := only_setCell wr g j (.int .i64 ((cof t st ww j : Nat) : Int))
      have HR2 := Lib.hid (HR.out.other ho (by omega))
      have HB2 := Lib.hid (HB.out.trans (ho.below (show w.heap.size ≤ g by omega)))
      rw [hcof] at hset ho HR2 HB2
      have HSET := Lib.hid hset
      clear hset ho HX HB hcof
      generalize t (st ^ (ww - (j + 1))) = cv at *
      generalize hq : st ^ (ww - j) = q at *
      have HQ := Lib.hid hq
      clear hq
      generalize st ^ (ww - (j + 1)) = p at *
      generalize xs.getD j 0 = old at *
      have hmul : IntKind.i64.wrap ((p : Int) * (st : Int)) = (q : Int) := by
        rw [hpm, show ((p : Int) * (st : Int)) = ((p * st : Nat) : Int) from by push_cast; rfl, IntKind.wrap_i64]; omega
      clear hpm HR
      go_upto_region 11 with fail
      clear f3 f5 hcell hfrz hct
      generalize wr.setCell ⟨g, j, none⟩ (.int .i64 ((cv : Nat) : Int)) = w9 at *
      have f3 := HR2.out.cell 3
      unfold rulL at f3
      dsimp only [List.getElem?_cons_succ, List.getElem?_cons_zero] at f3
      go_wp2_with fail
      exact ⟨⟨j, by omega, by first | rfl | simp, by rw [HQ.out], HSET.out, HR2.out, HB2.out⟩, by simp [intOf]⟩
    · obtain rfl : k = 0 := by omega
      rw [endI_zero] at HX
      have HDL : Hid (∀ N i, dig st ww N i < st) := fun N i => dig_lt (by omega)
      have HCL : Hid (∀ i, cof t st ww i < st) := fun i => HTL.out _
      clear f3
      go_wp2_with fail
      clear f5
      obtain ⟨c, hc⟩ : ∃ c, c = cof t st ww := ⟨_, rfl⟩
      have HCE := Lib.hid hc
      rw [← hc] at HX HCL
      have HSM : Hid (SumT t st ww ↔ ∀ N, N < st ^ ww → t N = sumN (fun i => c i * dig st ww N i) ww % st) := by
        rw [hc]; exact Iff.rfl
      clear hc hk hk0
      go_loopw [45] (fun u wr => ∃ N : Nat, N ≤ tn ∧ u = .int .i64 N ∧ (∀ M, M < N → t M = sumN (fun i => c i * dig st ww M i) ww % st) ∧ Row wr g 3 ((lst ww c).map (Value.int .i64)) ∧ Row wr b1 24 (rulL K B S st ra ta tn tc tu) ∧ Below w.heap.size w wr) (fun u _ => tn - (intOf u).toNat)
      case atStart => exact ⟨0, Nat.zero_le _, rfl, fun M hM => absurd hM (Nat.not_lt_zero _), HX.out, HR.out, HB.out⟩
      case round =>
        clear HX HR HB
        obtain ⟨N, hN, rfl, hall, hX, hR, hbel⟩ := hrel
        have HALL := Lib.hid hall
        have HX := Lib.hid hX
        have HR := Lib.hid hR
        have HB := Lib.hid hbel
        clear hall hX hR hbel
        by_cases hlt : N < tn
        · obtain ⟨bt, ot, rfl, _, hct⟩ := (HT.out.keep HB.out).cells N hlt
          dsimp only at hct
          rw [HTV.out] at hct
          obtain ⟨x, hx⟩ : ∃ x, x = t N := ⟨_, rfl⟩
          have hxs : x < st := by rw [hx]; exact HTL.out N
          have HXE := Lib.hid hx
          rw [← hx] at hct
          clear hx
          obtain ⟨F, hF⟩ : ∃ F : Nat → Nat, F = fun i => c i * dig st ww N i := ⟨_, rfl⟩
          have HFB : Hid (∀ i, i < ww → F i ≤ 16) := fun i _ => by
            rw [hF]
            have h1 := HCL.out i
            have h2 := HDL.out N i
            exact Nat.le_trans (Nat.mul_le_mul (show c i ≤ 4 by omega) (show dig st ww N i ≤ 4 by omega)) (by decide)
          have HFE : Hid (∀ i, F i = c i * dig st ww N i) := fun i => by rw [hF]
          have HFS : Hid (sumN (fun i => c i * dig st ww N i) ww = sumN F ww) := by rw [hF]; rfl
          clear hF
          go_wp2_with fail
          clear hct
          go_loopw [9, 11, 12] (fun u v q wr => ∃ k : Nat, k ≤ ww ∧ q = .int .i64 ((k : Int) - 1) ∧ u = .int .i64 ((N / st ^ (ww - k) : Nat) : Int) ∧ v = .int .i64 ((sumN (fun i => if k ≤ i then F i else 0) ww : Nat) : Int) ∧ Row wr g 3 ((lst ww c).map (Value.int .i64)) ∧ Row wr b1 24 (rulL K B S st ra (some ⟨bt, ot, none⟩) tn tc tu) ∧ Below w.heap.size w wr) (fun _ _ q _ => (intOf q + 1).toNat)
          case atStart => exact ⟨ww, Nat.le_refl _, rfl, by rw [Nat.sub_self, Nat.pow_zero, Nat.div_one], by rw [tail_end]; rfl, HX.out, HR.out, HB.out⟩
          case round =>
            clear HX HR HB
            obtain ⟨k, hk, rfl, rfl, rfl, hX, hR, hbel⟩ := hrel
            have HX := Lib.hid hX
            have HR := Lib.hid hR
            have HB := Lib.hid hbel
            clear hX hR hbel
            have f3 := HR.out.cell 3
            unfold rulL at f3
            dsimp only [List.getElem?_cons_succ, List.getElem?_cons_zero] at f3
            have hst0 : ((st : Int) == 0) = false := by rw [beq_eq_false_iff_ne]; omega
            have hst1 : ¬ st = 0 := by omega
            have hsb := tail_le (F := F) (B := 16) (w := ww) (k := k) HFB.out
            by_cases hk0 : 0 < k
            · obtain ⟨j, rfl⟩ : ∃ j, k = j + 1 := ⟨k - 1, by omega⟩
              have hji : ((j + 1 : Nat) : Int) - 1 = (j : Int) := by omega
              rw [hji]
              have hjw : j < ww := by omega
              have hqm : ((N / st ^ (ww - (j + 1)) : Nat) : Int).tmod (st : Int) = ((dig st ww N j : Nat) : Int) := by
                rw [show dig st ww N j = N / st ^ (ww - (j + 1)) % st from by unfold dig; rw [show ww - 1 - j = ww - (j + 1) from by omega]]
                exact Int.ofNat_tmod _ _
              have hqd : ((N / st ^ (ww - (j + 1)) : Nat) : Int).tdiv (st : Int) = ((N / st ^ (ww - j) : Nat) : Int) := by
                rw [show N / st ^ (ww - j) = N / st ^ (ww - (j + 1)) / st from by rw [Nat.div_div_eq_div_mul, ← Nat.pow_succ]; congr 2; omega]
                exact Int.ofNat_tdiv _ _
              have hq4 : N / st ^ (ww - (j + 1)) ≤ N := Nat.div_le_self _ _
              have hq5 : N / st ^ (ww - j) ≤ N := Nat.div_le_self _ _
              have hcell := (HX.out.cell j).trans (lst_getI hjw)
              have hfb := HFB.out j hjw
              have HFJ : Hid (c j * dig st ww N j = F j) := (HFE.out j).symm
              have HTN2 : Hid (sumN (fun i => if j ≤ i then F i else 0) ww = sumN (fun i => if j + 1 ≤ i then F i else 0) ww + F j) := tail_next hjw
              have hcl := HCL.out j
              have hdl := HDL.out N j
              have hmul : IntKind.i64.wrap (((c j : Nat) : Int) * ((dig st ww N j : Nat) : Int)) = ((F j : Nat) : Int) := by
                rw [show (((c j : Nat) : Int) * ((dig st ww N j : Nat) : Int)) = ((c j * dig st ww N j : Nat) : Int) from by push_cast; rfl, HFJ.out, IntKind.wrap_i64]; omega
              have hmul2 : ((c j : Nat) : Int) * ((dig st ww N j : Nat) : Int) = ((F j : Nat) : Int) := by
                rw [← HFJ.out]; push_cast; rfl
              generalize hs2 : sumN (fun i => if j ≤ i then F i else 0) ww = s2 at *
              have HS2 := Lib.hid hs2
              clear hs2
              generalize sumN (fun i => if j + 1 ≤ i then F i else 0) ww = s1 at *
              generalize F j = fj at *
              generalize c j = cj at *
              generalize dig st ww N j = dj at *
              generalize N / st ^ (ww - (j + 1)) = qn at *
              generalize hq2 : N / st ^ (ww - j) = qn2 at *
              have HQ2 := Lib.hid hq2
              clear hq2
              have u1 : IntKind.i64.wrap ((s1 : Int) + (fj : Int)) = (s1 : Int) + (fj : Int) := by rw [IntKind.wrap_i64]; omega
              have u2 : IntKind.i64.wrap (fj : Int) = (fj : Int) := by rw [IntKind.wrap_i64]; omega
              have u3 : IntKind.i64.wrap (dj : Int) = (dj : Int) := by rw [IntKind.wrap_i64]; omega
              go_wp2_with fail
              go_big_quiet (fail)
              have HX := Lib.hid (HX.out.drewN nq)
              have HR := Lib.hid (HR.out.drewN nq)
              have HB := Lib.hid (below_drewN HB.out nq)
              clear f3 hcell
              generalize wr.drewN nq = w9 at *
              have f3 := HR.out.cell 3
              unfold rulL at f3
              dsimp only [List.getElem?_cons_succ, List.getElem?_cons_zero] at f3
              go_wp2_with fail
              exact ⟨⟨j, by omega, by first | rfl | simp, by rw [HQ2.out], by rw [HS2.out, HTN2.out]; push_cast; rfl, HX.out, HR.out, HB.out⟩, by simp [intOf]⟩
            · obtain rfl : k = 0 := by omega
              rw [tail_all] at hsb ⊢
              have HSS : Hid (sumN (fun i => c i * dig st ww N i) ww = sumN F ww) := HFS.out
              generalize sumN F ww = su at *
              have hmod : ((su : Int)).tmod (st : Int) = ((su % st : Nat) : Int) := Int.ofNat_tmod _ _
              have hml : su % st < st := Nat.mod_lt _ (by omega)
              obtain ⟨rm, hrm⟩ : ∃ rm, rm = su % st := ⟨_, rfl⟩
              rw [← hrm] at hmod hml
              have HRM := Lib.hid hrm
              clear hrm
              by_cases hxr : rm = x
              · have bne : ((rm : Int) != (x : Int)) = false := by rw [hxr, bne_self_eq_false]
                have HA2 : Hid (∀ M, M < N + 1 → t M = sumN (fun i => c i * dig st ww M i) ww % st) := fun M hM => by
                  rcases Nat.lt_or_eq_of_le (Nat.le_of_lt_succ hM) with h | rfl
                  · exact HALL.out M h
                  · rw [HSS.out, ← HRM.out, ← HXE.out, hxr]
                clear hxr
                go_wp2_with fail
                go_roundw
                case rel => exact ⟨N + 1, by omega, by go_num, HA2.out, HX.out, HR.out, HB.out⟩
                case measure => simp [intOf]; omega
              · have bne : ((rm : Int) != (x : Int)) = true := by rw [bne_iff_ne]; omega
                have HNO : Hid (¬ SumT t st ww) := fun h => hxr (by
                  have h1 := HSM.out.1 h N (by rw [← HTN.out]; exact hlt)
                  rw [HSS.out, ← HRM.out, ← HXE.out] at h1
                  exact h1.symm)
                clear hxr
                go_wp2_with fail
                go_ret2
                exact ⟨.inr ⟨rfl, HNO.out⟩, HB.out⟩
        · have e : N = tn := by omega
          subst e
          have HYES : Hid (SumT t st ww) := HSM.out.2 fun M hM => HALL.out M (by rw [HTN.out]; exact hM)
          have HI := Lib.hid (row_isN HX.out lst_len (by unfold maxLen; omega))
          go_wp2_with fail
          go_ret2
          exact ⟨.inl ⟨g, rfl, by rw [← HCE.out]; exact HI.out, HYES.out⟩, HB.out⟩
end Ln
end Go.Proofs.YtahhhbdnhimbfaaDoor
