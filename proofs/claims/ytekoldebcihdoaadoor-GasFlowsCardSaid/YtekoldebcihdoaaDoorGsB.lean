/- WALK: gas.turned, gas.meet, gas.next. -/
import Derived.Test.YtekoldebcihdoaaDoorGsA
import Derived.Laws.ComplexArith
import Derived.Laws.FloatArith
namespace Go.Proofs.YtekoldebcihdoaaDoor
set_option linter.unusedSimpArgs false
set_option linter.unusedVariables false
open Go.RowKit
namespace Gs
open Tld Mem

theorem below_n {B : Nat} {w w' : World} (h : Below B w w') (n : Nat) : Below B w (w'.drewN n) := ⟨h.os, h.tape, h.output, h.size, h.block⟩
set_option maxHeartbeats 2000000 in
theorem turned_any (c o : Nat) (w : World) (hc : c = 9 ∨ c = 18 ∨ c = 36) (ho : o = 0 ∨ o = 1) :
    Calls Tryd.prog 30 #[.int .i64 6, .int .i64 c, .int .i64 (2 * (o : Int) - 1)] w fun e w' => e = .returned (.int .i64 (met 6 c o : Nat)) ∧ Below w.heap.size w w' := by
  rcases hc with rfl | rfl | rfl <;> rcases ho with rfl | rfl
  all_goals
    go_enter Tryd.func30, Tryd.ntmps30
    go_upto_region 2 with fail
    go_big_quiet (fail)
    go_wp2_with fail
    go_ret
    exact ⟨rfl, below_n (Below.refl _ _) _⟩

theorem met4 (c o : Nat) : met 4 c o = if c = 5 then 10 else if c = 10 then 5 else c := by unfold met; rw [if_pos rfl]
set_option maxHeartbeats 4000000 in
theorem meet_any (K c o : Nat) (w : World) (hK : (K = 4 ∧ c < 16) ∨ (K = 6 ∧ c < 64)) (ho : o = 0 ∨ o = 1) :
    Calls Tryd.prog 21 #[.int .i64 K, .int .i64 c, .int .i64 o] w fun e w' => e = .returned (.int .i64 (met K c o : Nat)) ∧ Below w.heap.size w w' := by
  rcases hK with ⟨rfl, hc⟩ | ⟨rfl, hc⟩
  · rw [met4]
    by_cases h5 : c = 5
    · subst h5
      go_enter Tryd.func21, Tryd.ntmps21
      go_wp2_with fail
      go_ret
      exact ⟨rfl, Below.refl _ _⟩
    · by_cases h10 : c = 10
      · subst h10
        go_enter Tryd.func21, Tryd.ntmps21
        go_wp2_with fail
        go_ret
        exact ⟨rfl, Below.refl _ _⟩
      · rw [if_neg h5, if_neg h10]
        have q1 : ((c : Int) == 5) = false := beq_eq_false_iff_ne.2 (by omega)
        have q2 : ((c : Int) == 10) = false := beq_eq_false_iff_ne.2 (by omega)
        have q3 : ¬ (c : Int) = 5 := by omega
        have q4 : ¬ (c : Int) = 10 := by omega
        go_enter Tryd.func21, Tryd.ntmps21
        go_wp2_with fail
        go_ret
        exact ⟨rfl, Below.refl _ _⟩
  · by_cases h21 : c = 21
    · subst h21
      go_enter Tryd.func21, Tryd.ntmps21
      go_wp2_with fail
      go_ret
      exact ⟨rfl, Below.refl _ _⟩
    by_cases h42 : c = 42
    · subst h42
      go_enter Tryd.func21, Tryd.ntmps21
      go_wp2_with fail
      go_ret
      exact ⟨rfl, Below.refl _ _⟩
    by_cases h9 : c = 9
    · subst h9
      have HT := Lib.hid (turned_any 9 o w (by omega) ho)
      rcases ho with rfl | rfl
      all_goals
        go_enter Tryd.func21, Tryd.ntmps21
        go_wp2_with fail
        refine HT.out.mono ?_
        rintro e1 w1 ⟨rfl, hb1⟩
        go_wp2_with fail
        go_ret
        exact ⟨rfl, hb1⟩
    by_cases h18 : c = 18
    · subst h18
      have HT := Lib.hid (turned_any 18 o w (by omega) ho)
      rcases ho with rfl | rfl
      all_goals
        go_enter Tryd.func21, Tryd.ntmps21
        go_wp2_with fail
        refine HT.out.mono ?_
        rintro e1 w1 ⟨rfl, hb1⟩
        go_wp2_with fail
        go_ret
        exact ⟨rfl, hb1⟩
    by_cases h36 : c = 36
    · subst h36
      have HT := Lib.hid (turned_any 36 o w (by omega) ho)
      rcases ho with rfl | rfl
      all_goals
        go_enter Tryd.func21, Tryd.ntmps21
        go_wp2_with fail
        refine HT.out.mono ?_
        rintro e1 w1 ⟨rfl, hb1⟩
        go_wp2_with fail
        go_ret
        exact ⟨rfl, hb1⟩
    have he : met 6 c o = c := by
      unfold met
      rw [if_neg (by omega), if_neg h21, if_neg h42, if_neg h9, if_neg h18, if_neg h36]
    rw [he]
    have q21 : ((c : Int) == 21) = false := beq_eq_false_iff_ne.2 (by omega)
    have r21 : ¬ (c : Int) = 21 := by omega
    have q42 : ((c : Int) == 42) = false := beq_eq_false_iff_ne.2 (by omega)
    have r42 : ¬ (c : Int) = 42 := by omega
    have q9 : ((c : Int) == 9) = false := beq_eq_false_iff_ne.2 (by omega)
    have r9 : ¬ (c : Int) = 9 := by omega
    have q18 : ((c : Int) == 18) = false := beq_eq_false_iff_ne.2 (by omega)
    have r18 : ¬ (c : Int) = 18 := by omega
    have q36 : ((c : Int) == 36) = false := beq_eq_false_iff_ne.2 (by omega)
    have r36 : ¬ (c : Int) = 36 := by omega
    go_enter Tryd.func21, Tryd.ntmps21
    go_wp2_with fail
    go_ret
    exact ⟨rfl, Below.refl _ _⟩

    /-! ### complex numbers: closed facts -/
theorem csub_zzzp (w : World) : (binOp .sub 58 (.complex .f64 0 0) (.complex .f64 0 4607182418800017408)).run Tryd.prog w = .ok (.complex .f64 0 13830554455654793216) w := run_complex_sum w .sub (by simp) _ .f64 _ _ _ _ _ _ (by kernel_rfl)
theorem csub_zzpz (w : World) : (binOp .sub 58 (.complex .f64 0 0) (.complex .f64 4607182418800017408 0)).run Tryd.prog w = .ok (.complex .f64 13830554455654793216 0) w := run_complex_sum w .sub (by simp) _ .f64 _ _ _ _ _ _ (by kernel_rfl)
theorem csub_mzzp (w : World) : (binOp .sub 58 (.complex .f64 13830554455654793216 0) (.complex .f64 0 4607182418800017408)).run Tryd.prog w = .ok (.complex .f64 13830554455654793216 13830554455654793216) w := run_complex_sum w .sub (by simp) _ .f64 _ _ _ _ _ _ (by kernel_rfl)
theorem cadd_mzzp (w : World) : (binOp .add 58 (.complex .f64 13830554455654793216 0) (.complex .f64 0 4607182418800017408)).run Tryd.prog w = .ok (.complex .f64 13830554455654793216 4607182418800017408) w := run_complex_sum w .add (by simp) _ .f64 _ _ _ _ _ _ (by kernel_rfl)
theorem cadd_zzzp (w : World) : (binOp .add 58 (.complex .f64 0 0) (.complex .f64 0 4607182418800017408)).run Tryd.prog w = .ok (.complex .f64 0 4607182418800017408) w := run_complex_sum w .add (by simp) _ .f64 _ _ _ _ _ _ (by kernel_rfl)
theorem csub_pzzp (w : World) : (binOp .sub 58 (.complex .f64 4607182418800017408 0) (.complex .f64 0 4607182418800017408)).run Tryd.prog w = .ok (.complex .f64 4607182418800017408 13830554455654793216) w := run_complex_sum w .sub (by simp) _ .f64 _ _ _ _ _ _ (by kernel_rfl)
theorem csub_pzpz (w : World) : (binOp .sub 58 (.complex .f64 4607182418800017408 0) (.complex .f64 4607182418800017408 0)).run Tryd.prog w = .ok (.complex .f64 0 0) w := run_complex_sum w .sub (by simp) _ .f64 _ _ _ _ _ _ (by kernel_rfl)
theorem cadd_pzzp (w : World) : (binOp .add 58 (.complex .f64 4607182418800017408 0) (.complex .f64 0 4607182418800017408)).run Tryd.prog w = .ok (.complex .f64 4607182418800017408 4607182418800017408) w := run_complex_sum w .add (by simp) _ .f64 _ _ _ _ _ _ (by kernel_rfl)
theorem cvt_m (w : World) : (convert 60 3 (.float .f64 13830554455654793216)).run Tryd.prog w = .ok (.int .i64 (-1)) w := run_convert_float_int w _ _ _ _ _ _ (by kernel_rfl) Tryd.underlying3 (by kernel_rfl)
theorem cvt_z (w : World) : (convert 60 3 (.float .f64 0)).run Tryd.prog w = .ok (.int .i64 (0)) w := run_convert_float_int w _ _ _ _ _ _ (by kernel_rfl) Tryd.underlying3 (by kernel_rfl)
theorem cvt_p (w : World) : (convert 60 3 (.float .f64 4607182418800017408)).run Tryd.prog w = .ok (.int .i64 (1)) w := run_convert_float_int w _ _ _ _ _ _ (by kernel_rfl) Tryd.underlying3 (by kernel_rfl)
theorem fof_0 : floatOfInt .f64 0 = 0 := by kernel_rfl
theorem fof_1 : floatOfInt .f64 1 = 4607182418800017408 := by kernel_rfl
theorem tm_of {x y W : Nat} {e : Int} (hW : 1 ≤ W) (h : ((x + y + (W - 1) : Nat) : Int) = e + W) : (e + (W : Int)).tmod (W : Int) = (((x + y + (W - 1)) % W : Nat) : Int) := by
  rw [← h]; exact Int.ofNat_tmod _ _
theorem wpList_index {ops : Array Oper} {rest : List Oper} {o : Oper} {a : Act} {w : World} {Q : Exit → Act → World → Prop} (hgd : o.guard = none) (T : TypeId) (x y : Operand) (ho : o.op = .index T x y) (v : Value)
    (hrun : (Instr.index T (a.eval x) (a.eval y)).run Tryd.prog w = .ok v w) (hK : wpList Tryd.prog ops Q rest (a.put o.dst v) w) : wpList Tryd.prog ops Q (o :: rest) a w := by
  refine wpList_plain hgd fun K' hK' => ?_
  unfold Oper.wp
  simp [execOp, ho, hrun, Result.andThen]
  exact hK' _ _ hK
theorem index4 (w : World) (cs : List Value) (i : Nat) (v : Value) (h : i < 4) (hg : cs[i]? = some v) : (Instr.index 59 (.agg cs.toArray) (.int .i64 (i : Int))).run Tryd.prog w = .ok v w := by
  have hc : (0 : Int) ≤ (i : Int) ∧ (i : Int) < ((4 : Nat) : Int) := by omega
  have hg2 : cs.toArray[i]? = some v := by rw [List.getElem?_toArray]; exact hg
  have hs : (sizeOf 58).run Tryd.prog w = .ok 1 w := Tryd.sizeOf58 w
  have hp : (part 58 cs.toArray i).run Tryd.prog w = .ok v w := by simp [part, isAgg, run_underlying Tryd.underlying58, hg2]
  simp [Instr.index, run_underlying Tryd.underlying59, asIntOf, hc, hs, hp, go_sem, Result.andThen]
  rw [if_pos h, hg]
  rfl
theorem index6 (w : World) (cs : List Value) (i : Nat) (v : Value) (h : i < 6) (hg : cs[i]? = some v) : (Instr.index 61 (.agg cs.toArray) (.int .i64 (i : Int))).run Tryd.prog w = .ok v w := by
  have hc : (0 : Int) ≤ (i : Int) ∧ (i : Int) < ((6 : Nat) : Int) := by omega
  have hg2 : cs.toArray[i]? = some v := by rw [List.getElem?_toArray]; exact hg
  have hs : (sizeOf 58).run Tryd.prog w = .ok 1 w := Tryd.sizeOf58 w
  have hp : (part 58 cs.toArray i).run Tryd.prog w = .ok v w := by simp [part, isAgg, run_underlying Tryd.underlying58, hg2]
  simp [Instr.index, run_underlying Tryd.underlying61, asIntOf, hc, hs, hp, go_sem, Result.andThen]
  rw [if_pos h, hg]
  rfl
/-- A direction's number as a float's bits. -/
def fb (t : Nat) : Nat := if t = 0 then 13830554455654793216 else if t = 1 then 0 else 4607182418800017408
theorem cvt_any (t : Nat) (ht : t ≤ 2) (w : World) : (convert 60 3 (.float .f64 (fb t))).run Tryd.prog w = .ok (.int .i64 ((t : Int) - 1)) w := by
  have h : t = 0 ∨ t = 1 ∨ t = 2 := by omega
  rcases h with rfl | rfl | rfl
  · exact cvt_m w
  · exact cvt_z w
  · exact cvt_p w
theorem dX_le {K H d o : Nat} (hk : K = 4 ∨ (K = 6 ∧ H % 2 = 0)) (hd : d < K) (ho : o = 0 ∨ o = 1) : dX K d o ≤ 2 := by
  have h4 : ∀ d, d < 4 → ∀ o, o < 2 → dX 4 d o ≤ 2 := by decide
  have h6 : ∀ d, d < 6 → ∀ o, o < 2 → dX 6 d o ≤ 2 := by decide
  rcases hk with rfl | ⟨rfl, _⟩
  · exact h4 d hd o (by omega)
  · exact h6 d hd o (by omega)
theorem dY_le {K H d : Nat} (hk : K = 4 ∨ (K = 6 ∧ H % 2 = 0)) (hd : d < K) : dY K d ≤ 2 := by
  have h4 : ∀ d, d < 4 → dY 4 d ≤ 2 := by decide
  have h6 : ∀ d, d < 6 → dY 6 d ≤ 2 := by decide
  rcases hk with rfl | ⟨rfl, _⟩
  · exact h4 d hd
  · exact h6 d hd
set_option maxHeartbeats 8000000 in
set_option maxRecDepth 1000000 in
theorem next_any (K W H k d : Nat) (a : Option Addr) (n c : Nat) (w : World) (ho : Ok K W H) (hW : W ≤ 100) (hH : H ≤ 100) (hk : k < W * H) (hd : d < K) :
    Calls Tryd.prog 22 #[gas K W H a n c, .int .i64 k, .int .i64 d] w fun e w' => e = .returned (.int .i64 (nxt K W H k d : Nat)) ∧ Below w.heap.size w w' := by
  obtain ⟨hx, hy, hxy⟩ := at_of hk
  have hw1 := ho.w
  have hh1 := ho.h
  have hkk := ho.k
  obtain ⟨x, hxe⟩ : ∃ x, x = k % W := ⟨_, rfl⟩
  obtain ⟨y, hye⟩ : ∃ y, y = k / W := ⟨_, rfl⟩
  have hmod : (k : Int).tmod (W : Int) = (x : Int) := by rw [hxe]; exact Int.ofNat_tmod _ _
  have hdiv : (k : Int).tdiv (W : Int) = (y : Int) := by rw [hye]; exact Int.ofNat_tdiv _ _
  obtain ⟨od, hod⟩ : ∃ od, od = y % 2 := ⟨_, rfl⟩
  have hodm : (y : Int).tmod 2 = (od : Int) := by rw [hod]; exact Int.ofNat_tmod _ _
  have HN : Hid (nxt K W H k d = (y + dY K d + (H - 1)) % H * W + (x + dX K d od + (W - 1)) % W) := by
    show _ = _
    rw [hod, hxe, hye]
    rfl
  have hod2 : od = 0 ∨ od = 1 := by omega
  rw [← hxe] at hx
  rw [← hye] at hy
  rw [HN.out]
  clear hxy hxe hye hod HN ho hk
  unfold gas
  go_enter Tryd.func22, Tryd.ntmps22
  go_upto_region 1 with fail
  have hr0 : Row (w.alloc (.cells #[.int .i64 K, .int .i64 W, .int .i64 H, .slice a n c] 24)) w.heap.size 24 (boxG K W H a n c) := row_alloc w _ _
  have hb0 : Below w.heap.size w (w.alloc (.cells #[.int .i64 K, .int .i64 W, .int .i64 H, .slice a n c] 24)) := (Below.refl _ _).alloc (Nat.le_refl _) _
  have HR := Lib.hid hr0
  have HB := Lib.hid hb0
  clear hr0 hb0
  generalize w.alloc (.cells #[.int .i64 K, .int .i64 W, .int .i64 H, .slice a n c] 24) = w1 at *
  obtain ⟨g, hg⟩ : ∃ g, g = w.heap.size := ⟨_, rfl⟩
  rw [← hg] at HR ⊢
  clear hg
  have f0 := HR.out.cell 0
  have f1 := HR.out.cell 1
  have f2 := HR.out.cell 2
  unfold boxG at f0 f1 f2
  dsimp only [List.getElem?_cons_succ, List.getElem?_cons_zero] at f0 f1 f2
  have hW0 : ¬ (W : Int) = 0 := by omega
  have hW0b : ((W : Int) == 0) = false := beq_eq_false_iff_ne.2 hW0
  have hWm : ¬ (W : Int) = -1 := by omega
  go_big_quiet (fail)
  go_upto_if 21 with fail
  go_cut [9] (fun v wx => v = .complex .f64 (fb (dX K d od)) (fb (dY K d)) ∧ Row wx g 24 (boxG K W H a n c) ∧ Below w.heap.size w wx)
  case first =>
    rcases hkk with rfl | ⟨rfl, _⟩
    · have hd4 : d = 0 ∨ d = 1 ∨ d = 2 ∨ d = 3 := by omega
      clear hd
      rcases hd4 with rfl | rfl | rfl | rfl
      · go_wp2_with (refine wpList_index rfl 59 _ _ rfl _ (index4 _ [.complex .f64 4607182418800017408 0, .complex .f64 0 13830554455654793216, .complex .f64 13830554455654793216 0, .complex .f64 0 4607182418800017408] 0 _ (by omega) rfl) ?_)
        go_meet
        case rel => exact ⟨rfl, HR.out.drewN _, below_n HB.out _⟩
      · go_wp2_with (refine wpList_index rfl 59 _ _ rfl _ (index4 _ [.complex .f64 4607182418800017408 0, .complex .f64 0 13830554455654793216, .complex .f64 13830554455654793216 0, .complex .f64 0 4607182418800017408] 1 _ (by omega) rfl) ?_)
        go_meet
        case rel => exact ⟨rfl, HR.out.drewN _, below_n HB.out _⟩
      · go_wp2_with (refine wpList_index rfl 59 _ _ rfl _ (index4 _ [.complex .f64 4607182418800017408 0, .complex .f64 0 13830554455654793216, .complex .f64 13830554455654793216 0, .complex .f64 0 4607182418800017408] 2 _ (by omega) rfl) ?_)
        go_meet
        case rel => exact ⟨rfl, HR.out.drewN _, below_n HB.out _⟩
      · go_wp2_with (refine wpList_index rfl 59 _ _ rfl _ (index4 _ [.complex .f64 4607182418800017408 0, .complex .f64 0 13830554455654793216, .complex .f64 13830554455654793216 0, .complex .f64 0 4607182418800017408] 3 _ (by omega) rfl) ?_)
        go_meet
        case rel => exact ⟨rfl, HR.out.drewN _, below_n HB.out _⟩
    · have hd6 : d = 0 ∨ d = 1 ∨ d = 2 ∨ d = 3 ∨ d = 4 ∨ d = 5 := by omega
      clear hd
      have q0 := csub_zzzp
      have q1 := csub_zzpz
      have q2 := csub_mzzp
      have q3 := cadd_mzzp
      have q4 := cadd_zzzp
      have q5 := csub_pzzp
      have q6 := csub_pzpz
      have q7 := cadd_pzzp
      have qf0 := fof_0
      have qf1 := fof_1
      rcases hod2 with rfl | rfl <;> rcases hd6 with rfl | rfl | rfl | rfl | rfl | rfl
      · go_wp2_with (refine wpList_index rfl 61 _ _ rfl _ (index6 _ [.complex .f64 4607182418800017408 0, .complex .f64 0 13830554455654793216, .complex .f64 13830554455654793216 13830554455654793216, .complex .f64 13830554455654793216 0, .complex .f64 13830554455654793216 4607182418800017408, .complex .f64 0 4607182418800017408] 0 _ (by omega) rfl) ?_)
        go_meet
        case rel => exact ⟨rfl, HR.out.drewN _, below_n HB.out _⟩
      · go_wp2_with (refine wpList_index rfl 61 _ _ rfl _ (index6 _ [.complex .f64 4607182418800017408 0, .complex .f64 0 13830554455654793216, .complex .f64 13830554455654793216 13830554455654793216, .complex .f64 13830554455654793216 0, .complex .f64 13830554455654793216 4607182418800017408, .complex .f64 0 4607182418800017408] 1 _ (by omega) rfl) ?_)
        go_meet
        case rel => exact ⟨rfl, HR.out.drewN _, below_n HB.out _⟩
      · go_wp2_with (refine wpList_index rfl 61 _ _ rfl _ (index6 _ [.complex .f64 4607182418800017408 0, .complex .f64 0 13830554455654793216, .complex .f64 13830554455654793216 13830554455654793216, .complex .f64 13830554455654793216 0, .complex .f64 13830554455654793216 4607182418800017408, .complex .f64 0 4607182418800017408] 2 _ (by omega) rfl) ?_)
        go_meet
        case rel => exact ⟨rfl, HR.out.drewN _, below_n HB.out _⟩
      · go_wp2_with (refine wpList_index rfl 61 _ _ rfl _ (index6 _ [.complex .f64 4607182418800017408 0, .complex .f64 0 13830554455654793216, .complex .f64 13830554455654793216 13830554455654793216, .complex .f64 13830554455654793216 0, .complex .f64 13830554455654793216 4607182418800017408, .complex .f64 0 4607182418800017408] 3 _ (by omega) rfl) ?_)
        go_meet
        case rel => exact ⟨rfl, HR.out.drewN _, below_n HB.out _⟩
      · go_wp2_with (refine wpList_index rfl 61 _ _ rfl _ (index6 _ [.complex .f64 4607182418800017408 0, .complex .f64 0 13830554455654793216, .complex .f64 13830554455654793216 13830554455654793216, .complex .f64 13830554455654793216 0, .complex .f64 13830554455654793216 4607182418800017408, .complex .f64 0 4607182418800017408] 4 _ (by omega) rfl) ?_)
        go_meet
        case rel => exact ⟨rfl, HR.out.drewN _, below_n HB.out _⟩
      · go_wp2_with (refine wpList_index rfl 61 _ _ rfl _ (index6 _ [.complex .f64 4607182418800017408 0, .complex .f64 0 13830554455654793216, .complex .f64 13830554455654793216 13830554455654793216, .complex .f64 13830554455654793216 0, .complex .f64 13830554455654793216 4607182418800017408, .complex .f64 0 4607182418800017408] 5 _ (by omega) rfl) ?_)
        go_meet
        case rel => exact ⟨rfl, HR.out.drewN _, below_n HB.out _⟩
      · go_wp2_with (refine wpList_index rfl 61 _ _ rfl _ (index6 _ [.complex .f64 4607182418800017408 0, .complex .f64 4607182418800017408 13830554455654793216, .complex .f64 0 13830554455654793216, .complex .f64 13830554455654793216 0, .complex .f64 0 4607182418800017408, .complex .f64 4607182418800017408 4607182418800017408] 0 _ (by omega) rfl) ?_)
        go_meet
        case rel => exact ⟨rfl, HR.out.drewN _, below_n HB.out _⟩
      · go_wp2_with (refine wpList_index rfl 61 _ _ rfl _ (index6 _ [.complex .f64 4607182418800017408 0, .complex .f64 4607182418800017408 13830554455654793216, .complex .f64 0 13830554455654793216, .complex .f64 13830554455654793216 0, .complex .f64 0 4607182418800017408, .complex .f64 4607182418800017408 4607182418800017408] 1 _ (by omega) rfl) ?_)
        go_meet
        case rel => exact ⟨rfl, HR.out.drewN _, below_n HB.out _⟩
      · go_wp2_with (refine wpList_index rfl 61 _ _ rfl _ (index6 _ [.complex .f64 4607182418800017408 0, .complex .f64 4607182418800017408 13830554455654793216, .complex .f64 0 13830554455654793216, .complex .f64 13830554455654793216 0, .complex .f64 0 4607182418800017408, .complex .f64 4607182418800017408 4607182418800017408] 2 _ (by omega) rfl) ?_)
        go_meet
        case rel => exact ⟨rfl, HR.out.drewN _, below_n HB.out _⟩
      · go_wp2_with (refine wpList_index rfl 61 _ _ rfl _ (index6 _ [.complex .f64 4607182418800017408 0, .complex .f64 4607182418800017408 13830554455654793216, .complex .f64 0 13830554455654793216, .complex .f64 13830554455654793216 0, .complex .f64 0 4607182418800017408, .complex .f64 4607182418800017408 4607182418800017408] 3 _ (by omega) rfl) ?_)
        go_meet
        case rel => exact ⟨rfl, HR.out.drewN _, below_n HB.out _⟩
      · go_wp2_with (refine wpList_index rfl 61 _ _ rfl _ (index6 _ [.complex .f64 4607182418800017408 0, .complex .f64 4607182418800017408 13830554455654793216, .complex .f64 0 13830554455654793216, .complex .f64 13830554455654793216 0, .complex .f64 0 4607182418800017408, .complex .f64 4607182418800017408 4607182418800017408] 4 _ (by omega) rfl) ?_)
        go_meet
        case rel => exact ⟨rfl, HR.out.drewN _, below_n HB.out _⟩
      · go_wp2_with (refine wpList_index rfl 61 _ _ rfl _ (index6 _ [.complex .f64 4607182418800017408 0, .complex .f64 4607182418800017408 13830554455654793216, .complex .f64 0 13830554455654793216, .complex .f64 13830554455654793216 0, .complex .f64 0 4607182418800017408, .complex .f64 4607182418800017408 4607182418800017408] 5 _ (by omega) rfl) ?_)
        go_meet
        case rel => exact ⟨rfl, HR.out.drewN _, below_n HB.out _⟩
  case rest =>
    obtain ⟨rfl, hr, hb⟩ := hcut
    have HR := Lib.hid hr
    have HB := Lib.hid hb
    have ht : dX K d od ≤ 2 := dX_le hkk hd hod2
    have hu : dY K d ≤ 2 := dY_le hkk hd
    obtain ⟨t, hte⟩ : ∃ t, t = dX K d od := ⟨_, rfl⟩
    obtain ⟨u, hue⟩ : ∃ u, u = dY K d := ⟨_, rfl⟩
    rw [← hte] at ht ⊢
    rw [← hue] at hu ⊢
    have HTE := Lib.hid hte
    have HUE := Lib.hid hue
    clear hr hb f0 f1 f2 hkk hd hod2 hmod hdiv hodm hte hue
    have f0 := HR.out.cell 0
    have f1 := HR.out.cell 1
    have f2 := HR.out.cell 2
    unfold boxG at f0 f1 f2
    dsimp only [List.getElem?_cons_succ, List.getElem?_cons_zero] at f0 f1 f2
    have ct := cvt_any t ht
    have cu := cvt_any u hu
    obtain ⟨e, he⟩ : ∃ e : Int, e = (t : Int) - 1 := ⟨_, rfl⟩
    obtain ⟨e2, he2⟩ : ∃ e : Int, e = (u : Int) - 1 := ⟨_, rfl⟩
    rw [← he] at ct
    rw [← he2] at cu
    obtain ⟨nx, hnx⟩ : ∃ nx, nx = (x + t + (W - 1)) % W := ⟨_, rfl⟩
    obtain ⟨ny, hny⟩ : ∃ ny, ny = (y + u + (H - 1)) % H := ⟨_, rfl⟩
    have hxm : ((x : Int) + e + (W : Int)).tmod (W : Int) = (nx : Int) := by rw [hnx]; exact tm_of hw1 (by omega)
    have hym : ((y : Int) + e2 + (H : Int)).tmod (H : Int) = (ny : Int) := by rw [hny]; exact tm_of hh1 (by omega)
    have HNX := Lib.hid hnx
    have HNY := Lib.hid hny
    have hnl : nx < W := by rw [hnx]; exact Nat.mod_lt _ hw1
    have hyl : ny < H := by rw [hny]; exact Nat.mod_lt _ hh1
    have hpl : ny * W < 10000 := by
      have : ny * W ≤ 99 * 100 := Nat.mul_le_mul (by omega) hW
      omega
    obtain ⟨p, hp⟩ : ∃ p, p = ny * W := ⟨_, rfl⟩
    have hpw : (ny : Int) * (W : Int) = (p : Int) := by rw [hp]; push_cast; rfl
    rw [← hp] at hpl
    have HP := Lib.hid hp
    have hH0 : ¬ (H : Int) = 0 := by omega
    have hH0b : ((H : Int) == 0) = false := beq_eq_false_iff_ne.2 hH0
    have hHm : ¬ (H : Int) = -1 := by omega
    have he1 : -1 ≤ e ∧ e ≤ 1 := by omega
    have he3 : -1 ≤ e2 ∧ e2 ≤ 1 := by omega
    obtain ⟨he1a, he1b⟩ := he1
    obtain ⟨he3a, he3b⟩ := he3
    clear hnx hny hp he he2 ht hu
    go_wp2_with fail
    go_ret
    exact ⟨by rw [← HTE.out, ← HUE.out, ← HNX.out, ← HNY.out, ← HP.out]; push_cast; rfl, HB.out⟩
end Gs
end Go.Proofs.YtekoldebcihdoaaDoor
