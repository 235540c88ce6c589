/- THE LAW PlaneEden: its walk, out of its callees' contracts. -/
import Derived.Test.YthipeeagpllfeaaDoorPpPa
import Derived.Test.YthipeeagpllfeaaDoorPpMd
import Derived.Test.YthipeeagpllfeaaDoorPnL
import Derived.Test.YthipeeagpllfeaaDoorSame
namespace Go.Proofs.YthipeeagpllfeaaDoor
set_option linter.unusedSimpArgs false
set_option linter.unusedVariables false
open Go.RowKit
namespace Pn
open Tld Mem Bl

theorem wp_app_any {o : Oper} {a : Act} {w : World} {K : Act → World → Prop} {Q : Exit → Act → World → Prop} (x y : Operand) (ho : o.op = .call { callee := .builtin .append, args := #[x, y], argTypes := #[22, 22] })
    (B : Nat) (v : Value) (n : Nat) (zs : List Int) (hs : a.eval x = v) (hown : w.ownsRow B 3 1 v n (zs.map (Value.int .i64))) (sb so m c : Nat) (ys : List Int) (hy : a.eval y = .slice (some ⟨sb, so, none⟩) m c) (hl : ys.length = m)
    (hc : ∀ k, k < m → w.cell? ⟨sb, so + k, none⟩ = some (.int .i64 (ys.getD k 0))) (hn : n ≤ 1000000) (hm : m ≤ 1000000) (hB : B ≤ w.heap.size)
    (hK : ∀ av co w', w'.ownsRow B 3 1 (.slice av (n + m) co) (n + m) ((zs ++ ys).map (Value.int .i64)) → w.grownBy w' v.ownBlock → K (a.put o.dst (.slice av (n + m) co)) w') :
    Oper.wp Tryd.prog o a w K Q := by
  obtain ⟨i0, hI0, hz0, hz1, hz2⟩ := info_parts infoIntV
  refine wp_append_own w x y 22 ho B 3 i0 (.int .i64 0) 1 8 Tryd.underlying22 hI0 hz0 hz1 hz2 rfl (by decide) v n _ hs hown ⟨sb, so, none⟩ m c (ys.map (Value.int .i64)) hy (by simp [hl]) (fun j u hj => ?_) (fun u hu => by obtain ⟨x, _, rfl⟩ := List.mem_map.1 hu; rfl) (by unfold maxLen; omega) (by omega) hB fun v' w' ho' hg => ?_
  · have hjm : j < m := by
      have := (List.getElem?_eq_some_iff.1 hj).1
      rw [List.length_map, hl] at this
      exact this
    rw [Addr.add_mid, hc j hjm]
    have e : (ys.map (Value.int .i64))[j]? = some (Value.int .i64 (ys.getD j 0)) := by simp [List.getD_eq_getElem?_getD, List.getElem?_eq_getElem (show j < ys.length from by rw [hl]; exact hjm)]
    rw [e] at hj
    exact hj
  · rw [← List.map_append] at ho'
    obtain ⟨av, co, hv, _⟩ := own_is ho'
    subst hv
    intro _
    exact hK _ _ _ ho' hg
theorem eden_nums {W' H' m W2 H2 j yy : Nat} (hW : W' = W2 + 2) (hH : H' = H2 + 2) (h5 : W2 ≤ 5) (h6 : H2 ≤ 5) (hm : m = W' * H') (hy : yy = j + 1) (hj : j < H2) :
    ∃ q lo p hi : Nat, lo = yy * W' + 1 ∧ lo ≤ hi ∧ hi - lo = W2 ∧ hi ≤ m ∧ ¬ m = lo ∧ lo + W2 ≤ m ∧
      wrap64 ((yy : Int) * (W' : Int)) = (q : Int) ∧ wrap64 ((q : Int) + 1) = (lo : Int) ∧ wrap64 ((q : Int) + (W' : Int)) = (p : Int) ∧ wrap64 ((p : Int) - 1) = (hi : Int) := by
  have h1 : (yy + 1) * W' ≤ H' * W' := Nat.mul_le_mul_right W' (by omega)
  rw [Nat.succ_mul, Nat.mul_comm H' W', ← hm] at h1
  have h2 : W' * H' ≤ 7 * 7 := Nat.mul_le_mul (by omega) (by omega)
  exact ⟨yy * W', yy * W' + 1, yy * W' + W', yy * W' + W' - 1, rfl, by omega, by omega, by omega, by omega, by omega, wr_nat (by push_cast; rfl) (by omega), wr_nat (by push_cast; rfl) (by omega), wr_nat (by push_cast; rfl) (by omega), wr_nat (by omega) (by omega)⟩

set_option maxHeartbeats 16000000 in
set_option maxRecDepth 1000000 in
theorem eden_walk (K B S st ra : Int) (ta : Option Addr) (tn tc : Nat) (tu : ByteArray) (W H : Int) (a : Option Addr) (n c : Nat) (X Y : Int) (d : Option Addr) (k e : Nat) (ys : List Int) (w : World) (fv : Value) (W1 H1 : Int) (z1 : List Int) (isn : Bool) (hL : Tld.Laid w) (hQ : Ints.Is w d k ys)
    (k2 : ∀ w2, Below w.heap.size w w2 → Calls Tryd.prog 7 #[.agg #[.int .i64 K, .int .i64 B, .int .i64 S, .int .i64 st, .int .i64 ra, .slice ta tn tc, .string tu], .agg #[.int .i64 W, .int .i64 H, .slice a n c]] w2 fun ee w' => (∃ a1 n1 c1, ee = .returned (.tuple #[.agg #[.int .i64 W1, .int .i64 H1, .slice a1 n1 c1], fv]) ∧ Ints.Is w' a1 n1 z1) ∧ Below w2.heap.size w2 w')
    (kd : (isn = true ∧ fv = .nilIface ∧ ∀ (w2 : World) (a1 : Option Addr) (n1 c1 : Nat), Below w.heap.size w w2 → Ints.Is w2 a1 n1 z1 → Calls Tryd.prog 11 #[.agg #[.int .i64 K, .int .i64 B, .int .i64 S, .int .i64 st, .int .i64 ra, .slice ta tn tc, .string tu], .agg #[.int .i64 W1, .int .i64 H1, .slice a1 n1 c1], .agg #[.int .i64 W, .int .i64 H, .slice a n c]] w2 fun ee w' => (ee = .returned (.bool true)) ∧ Below w2.heap.size w2 w') ∨ (isn = false ∧ ∃ v : Int, v ≠ 0 ∧ (-1000 ≤ v ∧ v ≤ 1000) ∧ fv = errV v ∧ (v = 5 → pfault X Y ys = 0 → ∀ w2, Below w.heap.size w w2 → Calls Tryd.prog 11 #[.agg #[.int .i64 K, .int .i64 B, .int .i64 S, .int .i64 st, .int .i64 ra, .slice ta tn tc, .string tu], .agg #[.int .i64 X, .int .i64 Y, .slice d k e], .agg #[.int .i64 W, .int .i64 H, .slice a n c]] w2 fun ee w' => (ee = .returned (.bool false)) ∧ Below w2.heap.size w2 w')))
    (kt : (∃ v : Int, v ≠ 0 ∧ ∀ w2, Below w.heap.size w w2 → Calls Tryd.prog 13 #[.agg #[.int .i64 K, .int .i64 B, .int .i64 S, .int .i64 st, .int .i64 ra, .slice ta tn tc, .string tu], .agg #[.int .i64 X, .int .i64 Y, .slice d k e]] w2 fun ee w' => (ee = .returned (.tuple #[.agg #[.int .i64 0, .int .i64 0, .slice none 0 0], errV v])) ∧ Below w2.heap.size w2 w') ∨
      (∃ (W' H' m : Nat) (T : Nat → Nat), (W' < 2 ∨ H' < 2 ∨ 7 < W' ∨ 7 < H') ∧ ∀ w2, Below w.heap.size w w2 → Calls Tryd.prog 13 #[.agg #[.int .i64 K, .int .i64 B, .int .i64 S, .int .i64 st, .int .i64 ra, .slice ta tn tc, .string tu], .agg #[.int .i64 X, .int .i64 Y, .slice d k e]] w2 fun ee w' => (∃ g, ee = .returned (.tuple #[.agg #[.int .i64 (W' : Nat), .int .i64 (H' : Nat), .slice (some ⟨g, 0, none⟩) m m], .nilIface]) ∧ w2.heap.size ≤ g ∧ Vec w' g m T) ∧ Below w2.heap.size w2 w') ∨
      (∃ (W' H' m W2 H2 : Nat) (T : Nat → Nat) (fm : Nat → Nat → Nat) (W3 H3 : Int) (z3 : List Int), W' = W2 + 2 ∧ H' = H2 + 2 ∧ W2 ≤ 5 ∧ H2 ≤ 5 ∧ m = W' * H' ∧ (∀ x y, x < W2 → y < H2 → T ((y + 1) * W' + 1 + x) = fm x y) ∧ (∀ w2, Below w.heap.size w w2 → Calls Tryd.prog 13 #[.agg #[.int .i64 K, .int .i64 B, .int .i64 S, .int .i64 st, .int .i64 ra, .slice ta tn tc, .string tu], .agg #[.int .i64 X, .int .i64 Y, .slice d k e]] w2 fun ee w' => (∃ g, ee = .returned (.tuple #[.agg #[.int .i64 (W' : Nat), .int .i64 (H' : Nat), .slice (some ⟨g, 0, none⟩) m m], .nilIface]) ∧ w2.heap.size ≤ g ∧ Vec w' g m T) ∧ Below w2.heap.size w2 w') ∧
        (∀ (w2 : World) (am : Option Addr) (cm : Nat), Below w.heap.size w w2 → W2 * H2 ≤ cm → Ints.Is w2 am (W2 * H2) (flat W2 H2 fm) → Calls Tryd.prog 7 #[.agg #[.int .i64 K, .int .i64 B, .int .i64 S, .int .i64 st, .int .i64 ra, .slice ta tn tc, .string tu], .agg #[.int .i64 W2, .int .i64 H2, .slice am (W2 * H2) cm]] w2 fun ee w' => (∃ a3 n3 c3, ee = .returned (.tuple #[.agg #[.int .i64 W3, .int .i64 H3, .slice a3 n3 c3], .nilIface]) ∧ Ints.Is w' a3 n3 z3) ∧ Below w2.heap.size w2 w') ∧
        (∀ (w2 : World) (am : Option Addr) (cm : Nat) (a3 : Option Addr) (n3 c3 : Nat), Below w.heap.size w w2 → Ints.Is w2 am (W2 * H2) (flat W2 H2 fm) → Ints.Is w2 a3 n3 z3 → Calls Tryd.prog 11 #[.agg #[.int .i64 K, .int .i64 B, .int .i64 S, .int .i64 st, .int .i64 ra, .slice ta tn tc, .string tu], .agg #[.int .i64 W3, .int .i64 H3, .slice a3 n3 c3], .agg #[.int .i64 W2, .int .i64 H2, .slice am (W2 * H2) cm]] w2 fun ee w' => (ee = .returned (.bool true)) ∧ Below w2.heap.size w2 w'))) :
    Calls Tryd.prog 4 #[.agg #[.int .i64 K, .int .i64 B, .int .i64 S, .int .i64 st, .int .i64 ra, .slice ta tn tc, .string tu], .agg #[.int .i64 W, .int .i64 H, .slice a n c], .agg #[.int .i64 X, .int .i64 Y, .slice d k e]] w fun e w' => e = .returned (.bool true) ∧ Below w.heap.size w w' := by
  have K2 := Lib.hid k2
  have HKD := Lib.hid kd
  have HKT := Lib.hid kt
  have HE1 : Hid (∀ w2 : World, (binOp .eql 31 fv .nilIface).run Tryd.prog w2 = .ok (.bool isn) w2 ∧ (eqGuard .eql 31 (Operand.tmp 30) (Operand.const Value.nilIface) fv .nilIface).run Tryd.prog w2 = .ok () w2) := Lib.hid (fun w2 => by
    rcases kd with ⟨rfl, rfl, _⟩ | ⟨rfl, v, hv0, _, rfl, _⟩
    · exact ⟨by kernel_rfl, by kernel_rfl⟩
    · rw [errV_some hv0]; exact ⟨by kernel_rfl, by kernel_rfl⟩)
  have HE2 : Hid (∀ w2 : World, (binOp .neq 31 fv .nilIface).run Tryd.prog w2 = .ok (.bool (!isn)) w2 ∧ (eqGuard .neq 31 (Operand.tmp 38) (Operand.const Value.nilIface) fv .nilIface).run Tryd.prog w2 = .ok () w2) := Lib.hid (fun w2 => by
    rcases kd with ⟨rfl, rfl, _⟩ | ⟨rfl, v, hv0, _, rfl, _⟩
    · exact ⟨by kernel_rfl, by kernel_rfl⟩
    · rw [errV_some hv0]; exact ⟨by kernel_rfl, by kernel_rfl⟩)
  have KSH := Lib.hid (fun w2 (h : Below w.heap.size w w2) => shape_any X Y d k e ys w2 (hQ.keep h))
  have hL := Lib.hid (fun w2 (h : Below w.heap.size w w2) => hL.keep h)
  clear k2 kd kt hQ
  go_enter Tryd.func4, Tryd.ntmps4
  go_upto_region 1 with fail
  obtain ⟨hr1, hr2, hr3, hb2⟩ := three_new w 24 26 26 (rulP K B S st ra ta tn tc tu) (boxP W H a n c) (boxP X Y d k e)
  have HU : Hid (Row (((w.alloc (.cells #[.int .i64 K, .int .i64 B, .int .i64 S, .int .i64 st, .int .i64 ra, .slice ta tn tc, .string tu] 24)).alloc (.cells #[.int .i64 W, .int .i64 H, .slice a n c] 26)).alloc (.cells #[.int .i64 X, .int .i64 Y, .slice d k e] 26)) w.heap.size 24 (rulP K B S st ra ta tn tc tu)) := hr1
  have HP : Hid (Row (((w.alloc (.cells #[.int .i64 K, .int .i64 B, .int .i64 S, .int .i64 st, .int .i64 ra, .slice ta tn tc, .string tu] 24)).alloc (.cells #[.int .i64 W, .int .i64 H, .slice a n c] 26)).alloc (.cells #[.int .i64 X, .int .i64 Y, .slice d k e] 26)) (w.heap.size + 1) 26 (boxP W H a n c)) := hr2
  have HQ : Hid (Row (((w.alloc (.cells #[.int .i64 K, .int .i64 B, .int .i64 S, .int .i64 st, .int .i64 ra, .slice ta tn tc, .string tu] 24)).alloc (.cells #[.int .i64 W, .int .i64 H, .slice a n c] 26)).alloc (.cells #[.int .i64 X, .int .i64 Y, .slice d k e] 26)) (w.heap.size + 1 + 1) 26 (boxP X Y d k e)) := hr3
  have HB : Hid (Below w.heap.size w (((w.alloc (.cells #[.int .i64 K, .int .i64 B, .int .i64 S, .int .i64 st, .int .i64 ra, .slice ta tn tc, .string tu] 24)).alloc (.cells #[.int .i64 W, .int .i64 H, .slice a n c] 26)).alloc (.cells #[.int .i64 X, .int .i64 Y, .slice d k e] 26))) := hb2
  clear hr1 hr2 hr3 hb2
  generalize ((w.alloc (.cells #[.int .i64 K, .int .i64 B, .int .i64 S, .int .i64 st, .int .i64 ra, .slice ta tn tc, .string tu] 24)).alloc (.cells #[.int .i64 W, .int .i64 H, .slice a n c] 26)).alloc (.cells #[.int .i64 X, .int .i64 Y, .slice d k e] 26) = w0 at *
  obtain ⟨ub, hub⟩ : ∃ ub, ub = w.heap.size := ⟨_, rfl⟩
  rw [← hub] at HU HP HQ ⊢
  obtain ⟨pb, hpb⟩ : ∃ pb, pb = ub + 1 := ⟨_, rfl⟩
  rw [← hpb] at HP HQ ⊢
  obtain ⟨qb, hqb⟩ : ∃ qb, qb = pb + 1 := ⟨_, rfl⟩
  rw [← hqb] at HQ ⊢
  clear hub hpb hqb
  go_wp2_with fail
  refine (lives_any w0).mono ?_
  rintro e1 w1 ⟨rfl, hb1⟩
  have HU := Lib.hid (HU.out.keep hb1 HU.out.lt)
  have HP := Lib.hid (HP.out.keep hb1 HP.out.lt)
  have HQ := Lib.hid (HQ.out.keep hb1 HQ.out.lt)
  have HB := Lib.hid (HB.out.trans (hb1.mono HB.out.size))
  clear hb1
  have l0 := row_range HU.out
  have l1 := row_range HP.out
  go_wp2_with (first | (refine wpList_load_mid rfl 24 _ rfl ub 0 rfl _ _ l0 Tryd.underlying24 rfl infoRule ?_) | (refine wpList_load_mid rfl 26 _ rfl pb 0 rfl _ _ l1 Tryd.underlying26 rfl infoPat ?_))
  refine (K2.out w1 HB.out).mono ?_
  rintro e2 w2 ⟨⟨a1, n1, c1, rfl, hi1⟩, hb2⟩
  clear l0 l1
  have HI1 := Lib.hid hi1
  clear hi1
  have HU := Lib.hid (HU.out.keep hb2 HU.out.lt)
  have HP := Lib.hid (HP.out.keep hb2 HP.out.lt)
  have HQ := Lib.hid (HQ.out.keep hb2 HQ.out.lt)
  have HB := Lib.hid (HB.out.trans (hb2.mono HB.out.size))
  clear hb2
  have HNHA : Hid (ub ≠ w2.heap.size ∧ pb ≠ w2.heap.size ∧ qb ≠ w2.heap.size ∧ w.heap.size ≤ w2.heap.size) := Lib.hid ⟨Nat.ne_of_lt HU.out.lt, Nat.ne_of_lt HP.out.lt, Nat.ne_of_lt HQ.out.lt, HB.out.size⟩
  go_upto_region 5 with fail
  have hrx : Row (w2.alloc (.cells #[.int .i64 W1, .int .i64 H1, .slice a1 n1 c1] 26)) w2.heap.size 26 (boxP W1 H1 a1 n1 c1) := row_alloc w2 _ _
  have hbx : Below w2.heap.size w2 (w2.alloc (.cells #[.int .i64 W1, .int .i64 H1, .slice a1 n1 c1] 26)) := (Below.refl _ _).alloc (Nat.le_refl _) _
  have HU := Lib.hid (HU.out.keep hbx HU.out.lt)
  have HP := Lib.hid (HP.out.keep hbx HP.out.lt)
  have HQ := Lib.hid (HQ.out.keep hbx HQ.out.lt)
  have HI1 := Lib.hid (HI1.out.keep hbx)
  have HB := Lib.hid (HB.out.trans (hbx.mono HB.out.size))
  clear hbx
  have HA := Lib.hid hrx
  clear hrx
  generalize w2.alloc (.cells #[.int .i64 W1, .int .i64 H1, .slice a1 n1 c1] 26) = w3 at *
  obtain ⟨ab, hab⟩ : ∃ ab, ab = w2.heap.size := ⟨_, rfl⟩
  rw [← hab] at HA HNHA ⊢
  clear hab
  have he1 := fun w2 => (HE1.out w2).1
  have he3 := fun w2 => (HE1.out w2).2
  go_upto_if 31 with fail
  clear he1 he3
  go_cut [10] from 32 to 37 (fun v wx => Row wx ub 24 (rulP K B S st ra ta tn tc tu) ∧ Row wx pb 26 (boxP W H a n c) ∧ Row wx qb 26 (boxP X Y d k e) ∧ Below w.heap.size w wx)
  case first =>
    rcases HKD.out with ⟨rfl, rfl, kmade⟩ | ⟨rfl, v, hv0, _, rfl, _⟩
    · have KMADE := Lib.hid kmade
      clear kmade
      have l0 := row_range HU.out
      have l1 := row_range HA.out
      have l2 := row_range HP.out
      go_wp2_with (first | (refine wpList_load_mid rfl 24 _ rfl ub 0 rfl _ _ l0 Tryd.underlying24 rfl infoRule ?_) | (refine wpList_load_mid rfl 26 _ rfl ab 0 rfl _ _ l1 Tryd.underlying26 rfl infoPat ?_) | (refine wpList_load_mid rfl 26 _ rfl pb 0 rfl _ _ l2 Tryd.underlying26 rfl infoPat ?_))
      refine (KMADE.out _ _ _ _ HB.out HI1.out).mono ?_
      rintro e4 w4 ⟨rfl, hb4⟩
      clear l0 l1 l2
      have HU := Lib.hid (HU.out.keep hb4 HU.out.lt)
      have HP := Lib.hid (HP.out.keep hb4 HP.out.lt)
      have HQ := Lib.hid (HQ.out.keep hb4 HQ.out.lt)
      have HA := Lib.hid (HA.out.keep hb4 HA.out.lt)
      have HI1 := Lib.hid (HI1.out.keep hb4)
      have HB := Lib.hid (HB.out.trans (hb4.mono HB.out.size))
      clear hb4
      go_wp2_with fail
      go_meet
      case rel => exact ⟨HU.out, HP.out, HQ.out, HB.out⟩
    · clear hv0
      go_wp2_with fail
      go_meet
      case rel => exact ⟨HU.out, HP.out, HQ.out, HB.out⟩
  obtain ⟨hU, hP, hQ, hB⟩ := hcut
  clear HU HP HQ HB
  have HU := Lib.hid hU
  have HP := Lib.hid hP
  have HQ := Lib.hid hQ
  have HB := Lib.hid hB
  clear hU hP hQ hB
  clear K2 HI1 HA
  have he2 := fun w2 => (HE2.out w2).1
  have he4 := fun w2 => (HE2.out w2).2
  go_upto_if 39 with fail
  clear he2 he4
  go_cut [11, 12, 13] from 40 to 53 (fun s11 s12 s13 wx => Row wx ub 24 (rulP K B S st ra ta tn tc tu) ∧ Row wx pb 26 (boxP W H a n c) ∧ Row wx qb 26 (boxP X Y d k e) ∧ Below w.heap.size w wx)
  case first =>
    rcases HKD.out with ⟨rfl, rfl, _⟩ | ⟨rfl, v, hv0, hvb, rfl, knot⟩
    · skip
      go_wp2_with fail
      go_meet
      case rel => exact ⟨HU.out, HP.out, HQ.out, HB.out⟩
    · have KNOT := Lib.hid knot
      clear knot
      go_wp2_with fail
      refine (same_any v 5 _ (hL.out _ HB.out) hvb.1 hvb.2).mono ?_
      rintro e101 w101 ⟨rfl, hb101⟩
      have HU := Lib.hid (HU.out.keep hb101 HU.out.lt)
      have HP := Lib.hid (HP.out.keep hb101 HP.out.lt)
      have HQ := Lib.hid (HQ.out.keep hb101 HQ.out.lt)
      have HB := Lib.hid (HB.out.trans (hb101.mono HB.out.size))
      clear hb101
      have l0 := row_range HQ.out
      go_wp2_with (first | (refine wpList_load_mid rfl 26 _ rfl qb 0 rfl _ _ l0 Tryd.underlying26 rfl infoPat ?_))
      refine (KSH.out _ HB.out).mono ?_
      rintro e102 w102 ⟨rfl, hb102⟩
      clear l0
      have HU := Lib.hid (HU.out.keep hb102 HU.out.lt)
      have HP := Lib.hid (HP.out.keep hb102 HP.out.lt)
      have HQ := Lib.hid (HQ.out.keep hb102 HQ.out.lt)
      have HB := Lib.hid (HB.out.trans (hb102.mono HB.out.size))
      clear hb102
      by_cases hv : v = 5
      · subst hv
        by_cases hs : pfault X Y ys = 0
        · rw [hs]
          have l0 := row_range HU.out
          have l1 := row_range HQ.out
          have l2 := row_range HP.out
          go_wp2_with (first | (refine wpList_load_mid rfl 24 _ rfl ub 0 rfl _ _ l0 Tryd.underlying24 rfl infoRule ?_) | (refine wpList_load_mid rfl 26 _ rfl qb 0 rfl _ _ l1 Tryd.underlying26 rfl infoPat ?_) | (refine wpList_load_mid rfl 26 _ rfl pb 0 rfl _ _ l2 Tryd.underlying26 rfl infoPat ?_))
          refine (KNOT.out (by first | rfl | trivial) hs _ HB.out).mono ?_
          rintro e103 w103 ⟨rfl, hb103⟩
          clear l0 l1 l2
          have HU := Lib.hid (HU.out.keep hb103 HU.out.lt)
          have HP := Lib.hid (HP.out.keep hb103 HP.out.lt)
          have HQ := Lib.hid (HQ.out.keep hb103 HQ.out.lt)
          have HB := Lib.hid (HB.out.trans (hb103.mono HB.out.size))
          clear hb103
          clear hs hv0 hvb
          go_wp2_with fail
          go_meet
          case rel => exact ⟨HU.out, HP.out, HQ.out, HB.out⟩
        · have es : (pfault X Y ys == 0) = false := beq_eq_false_iff_ne.2 hs
          clear hs hv0 hvb
          go_wp2_with fail
          go_meet
          case rel => exact ⟨HU.out, HP.out, HQ.out, HB.out⟩
      · have ev : (v == 5) = false := beq_eq_false_iff_ne.2 hv
        clear hv hv0 hvb
        go_wp2_with fail
        go_meet
        case rel => exact ⟨HU.out, HP.out, HQ.out, HB.out⟩
  obtain ⟨hU, hP, hQ, hB⟩ := hcut
  clear HU HP HQ HB
  have HU := Lib.hid hU
  have HP := Lib.hid hP
  have HQ := Lib.hid hQ
  have HB := Lib.hid hB
  clear hU hP hQ hB
  clear HKD KSH
  rcases HKT.out with ⟨v, hv0, kt⟩ | ⟨W', H', m, T, hr, kt⟩ | ⟨W', H', m, W2, H2, T, fm, W3, H3, z3, hW', hH', hW2, hH2, hm, hT, kt, kp, km⟩
  · have KT := Lib.hid kt
    clear kt HKT
    rw [errV_some hv0] at KT
    clear hv0
    have l0 := row_range HU.out
    have l1 := row_range HQ.out
    go_wp2_with (first | (refine wpList_load_mid rfl 24 _ rfl ub 0 rfl _ _ l0 Tryd.underlying24 rfl infoRule ?_) | (refine wpList_load_mid rfl 26 _ rfl qb 0 rfl _ _ l1 Tryd.underlying26 rfl infoPat ?_))
    refine (KT.out _ HB.out).mono ?_
    rintro e201 w201 ⟨rfl, hb201⟩
    clear l0 l1
    have HU := Lib.hid (HU.out.keep hb201 HU.out.lt)
    have HP := Lib.hid (HP.out.keep hb201 HP.out.lt)
    have HQ := Lib.hid (HQ.out.keep hb201 HQ.out.lt)
    have HB := Lib.hid (HB.out.trans (hb201.mono HB.out.size))
    clear hb201
    have HNHBB : Hid (ub ≠ w201.heap.size ∧ pb ≠ w201.heap.size ∧ qb ≠ w201.heap.size ∧ w.heap.size ≤ w201.heap.size) := Lib.hid ⟨Nat.ne_of_lt HU.out.lt, Nat.ne_of_lt HP.out.lt, Nat.ne_of_lt HQ.out.lt, HB.out.size⟩
    go_upto_region 17 with fail
    have hrx : Row (w201.alloc (.cells #[.int .i64 0, .int .i64 0, .slice none 0 0] 26)) w201.heap.size 26 (noPat) := row_alloc w201 _ _
    have hbx : Below w201.heap.size w201 (w201.alloc (.cells #[.int .i64 0, .int .i64 0, .slice none 0 0] 26)) := (Below.refl _ _).alloc (Nat.le_refl _) _
    have HU := Lib.hid (HU.out.keep hbx HU.out.lt)
    have HP := Lib.hid (HP.out.keep hbx HP.out.lt)
    have HQ := Lib.hid (HQ.out.keep hbx HQ.out.lt)
    have HB := Lib.hid (HB.out.trans (hbx.mono HB.out.size))
    clear hbx
    have HBB := Lib.hid hrx
    clear hrx
    generalize w201.alloc (.cells #[.int .i64 0, .int .i64 0, .slice none 0 0] 26) = w202 at *
    obtain ⟨bb, hbb⟩ : ∃ bb, bb = w201.heap.size := ⟨_, rfl⟩
    rw [← hbb] at HBB HNHBB  ⊢
    clear hbb
    go_wp2_with fail
    go_ret
    exact ⟨rfl, HB.out⟩
  · have KT := Lib.hid kt
    clear kt HKT
    have HRG := Lib.hid hr
    clear hr
    have l0 := row_range HU.out
    have l1 := row_range HQ.out
    go_wp2_with (first | (refine wpList_load_mid rfl 24 _ rfl ub 0 rfl _ _ l0 Tryd.underlying24 rfl infoRule ?_) | (refine wpList_load_mid rfl 26 _ rfl qb 0 rfl _ _ l1 Tryd.underlying26 rfl infoPat ?_))
    refine (KT.out _ HB.out).mono ?_
    rintro e301 w301 ⟨⟨g, rfl, _, _⟩, hb301⟩
    clear l0 l1
    have HU := Lib.hid (HU.out.keep hb301 HU.out.lt)
    have HP := Lib.hid (HP.out.keep hb301 HP.out.lt)
    have HQ := Lib.hid (HQ.out.keep hb301 HQ.out.lt)
    have HB := Lib.hid (HB.out.trans (hb301.mono HB.out.size))
    clear hb301
    have HNHBB : Hid (ub ≠ w301.heap.size ∧ pb ≠ w301.heap.size ∧ qb ≠ w301.heap.size ∧ w.heap.size ≤ w301.heap.size) := Lib.hid ⟨Nat.ne_of_lt HU.out.lt, Nat.ne_of_lt HP.out.lt, Nat.ne_of_lt HQ.out.lt, HB.out.size⟩
    go_upto_region 17 with fail
    have hrx : Row (w301.alloc (.cells #[.int .i64 (W' : Nat), .int .i64 (H' : Nat), .slice (some ⟨g, 0, none⟩) m m] 26)) w301.heap.size 26 (boxP (W' : Nat) (H' : Nat) (some ⟨g, 0, none⟩) m m) := row_alloc w301 _ _
    have hbx : Below w301.heap.size w301 (w301.alloc (.cells #[.int .i64 (W' : Nat), .int .i64 (H' : Nat), .slice (some ⟨g, 0, none⟩) m m] 26)) := (Below.refl _ _).alloc (Nat.le_refl _) _
    have HU := Lib.hid (HU.out.keep hbx HU.out.lt)
    have HP := Lib.hid (HP.out.keep hbx HP.out.lt)
    have HQ := Lib.hid (HQ.out.keep hbx HQ.out.lt)
    have HB := Lib.hid (HB.out.trans (hbx.mono HB.out.size))
    clear hbx
    have HBB := Lib.hid hrx
    clear hrx
    generalize w301.alloc (.cells #[.int .i64 (W' : Nat), .int .i64 (H' : Nat), .slice (some ⟨g, 0, none⟩) m m] 26) = w302 at *
    obtain ⟨bb, hbb⟩ : ∃ bb, bb = w301.heap.size := ⟨_, rfl⟩
    rw [← hbb] at HBB HNHBB  ⊢
    clear hbb
    have b0 := HBB.out.cell 0
    have b1 := HBB.out.cell 1
    unfold boxP at b0 b1
    dsimp only [List.getElem?_cons_succ, List.getElem?_cons_zero] at b0 b1
    by_cases h1 : W' < 2
    · have i1 : (W' : Int) < 2 := by omega
      clear h1
      go_wp2_with fail
      go_ret
      exact ⟨rfl, HB.out⟩
    · have i1 : ¬ (W' : Int) < 2 := by omega
      by_cases h2 : H' < 2
      · have i2 : (H' : Int) < 2 := by omega
        clear h1 h2
        go_wp2_with fail
        go_ret
        exact ⟨rfl, HB.out⟩
      · have i2 : ¬ (H' : Int) < 2 := by omega
        by_cases h3 : 7 < W'
        · have i3 : (7 : Int) < (W' : Int) := by omega
          clear h1 h2 h3
          go_wp2_with fail
          go_ret
          exact ⟨rfl, HB.out⟩
        · have i3 : ¬ (7 : Int) < (W' : Int) := by omega
          have h4 : 7 < H' := by have := HRG.out; omega
          have i4 : (7 : Int) < (H' : Int) := by omega
          clear h1 h2 h3 h4
          go_wp2_with fail
          go_ret
          exact ⟨rfl, HB.out⟩
  · have KT := Lib.hid kt
    have KP := Lib.hid kp
    have KM := Lib.hid km
    have HW' := Lib.hid hW'
    have HH' := Lib.hid hH'
    have HW2 := Lib.hid hW2
    have HH2 := Lib.hid hH2
    have HM := Lib.hid hm
    have HTF := Lib.hid hT
    clear kt kp km HKT hT hW' hH' hW2 hH2 hm
    have l0 := row_range HU.out
    have l1 := row_range HQ.out
    go_wp2_with (first | (refine wpList_load_mid rfl 24 _ rfl ub 0 rfl _ _ l0 Tryd.underlying24 rfl infoRule ?_) | (refine wpList_load_mid rfl 26 _ rfl qb 0 rfl _ _ l1 Tryd.underlying26 rfl infoPat ?_))
    refine (KT.out _ HB.out).mono ?_
    rintro e401 w401 ⟨⟨g, rfl, hgw, hvec⟩, hb401⟩
    clear l0 l1
    have HVE := Lib.hid hvec
    clear hgw hvec
    have HU := Lib.hid (HU.out.keep hb401 HU.out.lt)
    have HP := Lib.hid (HP.out.keep hb401 HP.out.lt)
    have HQ := Lib.hid (HQ.out.keep hb401 HQ.out.lt)
    have HB := Lib.hid (HB.out.trans (hb401.mono HB.out.size))
    clear hb401
    have HNHBB : Hid (ub ≠ w401.heap.size ∧ pb ≠ w401.heap.size ∧ qb ≠ w401.heap.size ∧ w.heap.size ≤ w401.heap.size) := Lib.hid ⟨Nat.ne_of_lt HU.out.lt, Nat.ne_of_lt HP.out.lt, Nat.ne_of_lt HQ.out.lt, HB.out.size⟩
    go_upto_region 17 with fail
    have hrx : Row (w401.alloc (.cells #[.int .i64 (W' : Nat), .int .i64 (H' : Nat), .slice (some ⟨g, 0, none⟩) m m] 26)) w401.heap.size 26 (boxP (W' : Nat) (H' : Nat) (some ⟨g, 0, none⟩) m m) := row_alloc w401 _ _
    have hbx : Below w401.heap.size w401 (w401.alloc (.cells #[.int .i64 (W' : Nat), .int .i64 (H' : Nat), .slice (some ⟨g, 0, none⟩) m m] 26)) := (Below.refl _ _).alloc (Nat.le_refl _) _
    have HU := Lib.hid (HU.out.keep hbx HU.out.lt)
    have HP := Lib.hid (HP.out.keep hbx HP.out.lt)
    have HQ := Lib.hid (HQ.out.keep hbx HQ.out.lt)
    have HVE := Lib.hid (HVE.out.keep hbx)
    have HB := Lib.hid (HB.out.trans (hbx.mono HB.out.size))
    clear hbx
    have HBB := Lib.hid hrx
    clear hrx
    generalize w401.alloc (.cells #[.int .i64 (W' : Nat), .int .i64 (H' : Nat), .slice (some ⟨g, 0, none⟩) m m] 26) = w402 at *
    obtain ⟨bb, hbb⟩ : ∃ bb, bb = w401.heap.size := ⟨_, rfl⟩
    rw [← hbb] at HBB HNHBB ⊢
    clear hbb
    have b0 := HBB.out.cell 0
    have b1 := HBB.out.cell 1
    unfold boxP at b0 b1
    dsimp only [List.getElem?_cons_succ, List.getElem?_cons_zero] at b0 b1
    have i1 : ¬ (W' : Int) < 2 := by have := HW'.out; omega
    have i2 : ¬ (H' : Int) < 2 := by have := HH'.out; omega
    have i3 : ¬ (7 : Int) < (W' : Int) := by have := HW'.out; have := HW2.out; omega
    have i4 : ¬ (7 : Int) < (H' : Int) := by have := HH'.out; have := HH2.out; omega
    have s1 : wrap64 ((W' : Int) - 2) = (W2 : Int) := wr_nat (by have := HW'.out; omega) (by have := HW2.out; omega)
    have s2 : wrap64 ((H' : Int) - 2) = (H2 : Int) := by clear s1; exact wr_nat (by have := HH'.out; omega) (by have := HH2.out; omega)
    have s1' := wr_same s1
    have s2' := wr_same s2
    clear HP HQ
    have hbc : Below w402.heap.size w402 (w402.alloc (.cells #[.int .i64 (W2 : Nat), .int .i64 (H2 : Nat), .slice none 0 0] 26)) := (Below.refl _ _).alloc (Nat.le_refl _) _
    have hrc : Row (w402.alloc (.cells #[.int .i64 (W2 : Nat), .int .i64 (H2 : Nat), .slice none 0 0] 26)) w402.heap.size 26 [.int .i64 (W2 : Nat), .int .i64 (H2 : Nat), .slice none 0 0] := row_alloc _ _ _
    have HNC : Hid (ub ≠ w402.heap.size ∧ bb ≠ w402.heap.size ∧ w402.heap.size ≤ w402.heap.size) := Lib.hid ⟨Nat.ne_of_lt HU.out.lt, Nat.ne_of_lt HBB.out.lt, Nat.le_refl _⟩
    go_upto_region 20 with fail
    clear i1 i2 i3 i4 s1 s2 s1' s2' b0 b1
    have HU := Lib.hid (HU.out.keep hbc HU.out.lt)
    have HBB := Lib.hid (HBB.out.keep hbc HBB.out.lt)
    have HC := Lib.hid hrc
    have HB5 := Lib.hid hbc
    clear hrc hbc
    generalize w402.alloc (.cells #[.int .i64 (W2 : Nat), .int .i64 (H2 : Nat), .slice none 0 0] 26) = w6 at *
    obtain ⟨cb, hcb⟩ : ∃ cb, cb = w402.heap.size := ⟨_, rfl⟩
    have HCB : Hid (w402.heap.size ≤ cb) := Lib.hid (Nat.le_of_eq hcb.symm)
    rw [← hcb] at HC ⊢
    have HNC : Hid (ub ≠ cb ∧ bb ≠ cb ∧ w402.heap.size ≤ cb) := Lib.hid (by rw [hcb]; exact HNC.out)
    clear hcb
    go_wp2_with fail
    go_loopw [17] (fun u wr => ∃ j : Nat, ∃ vs : Value, j ≤ H2 ∧ u = .int .i64 ((j + 1 : Nat) : Int) ∧ Row wr ub 24 (rulP K B S st ra ta tn tc tu) ∧ Row wr bb 26 (boxP (W' : Nat) (H' : Nat) (some ⟨g, 0, none⟩) m m) ∧ Row wr cb 26 [.int .i64 (W2 : Nat), .int .i64 (H2 : Nat), vs] ∧ wr.ownsRow w402.heap.size 3 1 vs (W2 * j) ((flat W2 j fm).map (Value.int .i64)) ∧ Below w402.heap.size w402 wr) (fun u _ => H2 + 1 - (RowKit.intOf u).toNat)
    case atStart => exact ⟨0, _, Nat.zero_le _, rfl, HU.out, HBB.out, HC.out, by rw [Nat.mul_zero, flat_none]; exact own_nil _ _, HB5.out⟩
    case round =>
      clear HU HBB HC HB5
      obtain ⟨j, vs, hj, rfl, hU, hBB, hC, hO, hB5⟩ := hrel
      have HU := Lib.hid hU
      have HBB := Lib.hid hBB
      have HC := Lib.hid hC
      have HO := Lib.hid hO
      have HB5 := Lib.hid hB5
      clear hU hBB hC hO hB5
      have b1 := HBB.out.cell 1
      unfold boxP at b1
      dsimp only [List.getElem?_cons_succ, List.getElem?_cons_zero] at b1
      obtain ⟨yy, hyy⟩ : ∃ yy, yy = j + 1 := ⟨_, rfl⟩
      obtain ⟨h1, hh1⟩ : ∃ h1, h1 = H2 + 1 := ⟨_, rfl⟩
      have s1 : wrap64 ((H' : Int) - 1) = (h1 : Int) := wr_nat (by have := HH'.out; omega) (by have := HH2.out; omega)
      have s1' := wr_same s1
      rw [← hyy]
      by_cases hjh : j < H2
      · have hle : (yy : Int) < (h1 : Int) := by clear s1 s1'; omega
        have HJH := Lib.hid hjh
        obtain ⟨q, lo, p, hi, hlo, hlh, hhd, hhc, hcl, hln, e1, e2, e3, e4⟩ := eden_nums HW'.out HH'.out HW2.out HH2.out HM.out hyy hjh
        have HE := Lib.hid (And.intro e1 (And.intro e2 (And.intro e3 e4)))
        have HS1 := Lib.hid s1
        clear e1 e2 e3 e4 s1 s1'
        obtain ⟨yl, hyl⟩ : ∃ yl : List Int, yl = (List.range W2).map fun x => ((fm x j : Nat) : Int) := ⟨_, rfl⟩
        have HYL : Hid (yl.length = W2) := Lib.hid (by rw [hyl]; simp)
        have HROW : Hid (flat W2 (j + 1) fm = flat W2 j fm ++ yl) := Lib.hid (by rw [flat_row, hyl])
        have HSRC := Lib.hid (fun w2 (hb2 : Below wr.heap.size wr w2) k' (hk' : k' < W2) => show w2.cell? ⟨g, 0 + lo + k', none⟩ = some (.int .i64 (yl.getD k' 0)) by
          have hv2 := HVE.out.keep (HB5.out.trans (hb2.mono HB5.out.size))
          have hc := hv2.cell (k := lo + k') (by omega)
          rw [show 0 + lo + k' = lo + k' by rw [Nat.zero_add], hc, hlo, hyy, HTF.out k' j hk' hjh, hyl]
          simp [List.getD_eq_getElem?_getD, List.getElem?_range hk'])
        have HWI : Hid (W2 * j ≤ 1000000 ∧ W2 ≤ 1000000) := Lib.hid (by
          have h3 := HW2.out
          have h4 := HH2.out
          have h5 : W2 * j ≤ 5 * 5 := Nat.mul_le_mul h3 (by omega)
          omega)
        have HMS : Hid (W2 * j + W2 = W2 * (j + 1)) := Lib.hid (Nat.mul_succ _ _).symm
        have HJN : Hid (wrap64 ((yy : Int) + 1) = ((j + 1 + 1 : Nat) : Int) ∧ H2 + 1 - (RowKit.intOf (.int .i64 ((j + 1 + 1 : Nat) : Int))).toNat < H2 + 1 - (RowKit.intOf (.int .i64 (yy : Nat))).toNat) := Lib.hid ⟨by exact wr_nat (by omega) (by have := HH2.out; omega), by
          simp only [RowKit.intOf]
          rw [Int.toNat_natCast, Int.toNat_natCast]
          omega⟩
        obtain ⟨e1, e2, e3, e4⟩ := HE.out
        have s1 := HS1.out
        have s1' := wr_same s1
        have e1' := wr_same e1
        have e2' := wr_same e2
        have e3' := wr_same e3
        have e4' := wr_same e4
        clear hlo hln hyl hjh hj hyy hh1
        go_upto_region 23 with fail
        clear b1 s1 s1' hle
        have hdr : Below wr.heap.size wr wr.drew := (Below.refl _ _).drew
        refine wp_region_noPanic ?_
        refine Rt.region_Cn (Sc2 (fun w2 => w2.cell? ⟨bb, 0, none⟩ = some (.int .i64 (W' : Nat)) ∧ w2.cell? ⟨bb, 2, none⟩ = some (.slice (some ⟨g, 0, none⟩) m m)) (fun w2 => w2.cell? ⟨cb, 2, none⟩ = some vs) 20) 21 #[false, false, false, false, false, false, false, false, false, false, false, false, false, false, false, false, false, false, false, false, false] (by kernel_rfl) (by kernel_rfl) (by kernel_rfl) ?_
        have hS1 : ∀ o, Sc2 (fun w2 => w2.cell? ⟨bb, 0, none⟩ = some (.int .i64 (W' : Nat)) ∧ w2.cell? ⟨bb, 2, none⟩ = some (.slice (some ⟨g, 0, none⟩) m m)) (fun w2 => w2.cell? ⟨cb, 2, none⟩ = some vs) 20 o wr.drew := Sc2.of ⟨(HBB.out.keep hdr HBB.out.lt).cell 0, (HBB.out.keep hdr HBB.out.lt).cell 2⟩ ((HC.out.keep hdr HC.out.lt).cell 2)
        refine Rt.C_take (none) (i := 0) (oi := _) (v := ?_) rfl (by kernel_rfl) (by kernel_rfl) (by kernel_rfl) (by kernel_rfl) (fun _ _ _ h => h) (Sc2.other (by decide)) (Or.inl ⟨by rfl, ?_⟩) (fun o' _ => hS1 o') ?_
        rotate_left
        · intro w2 hSw
          obtain ⟨s0, s1⟩ := hSw
          go_simp
          try with_reducible rfl
        simp only [Act.put, List.getElem_toArray, List.getElem_cons_succ, List.getElem_cons_zero, List.setIfInBounds_toArray, List.set_cons_zero, List.set_cons_succ]
        refine Rt.C_take (some 20) (i := 1) (oi := _) (v := ?_) rfl (by kernel_rfl) (by kernel_rfl) (by kernel_rfl) (by kernel_rfl) (fun _ _ _ h => h) (Sc2.other (by decide)) (Or.inl ⟨by rfl, ?_⟩) (fun o' _ => hS1 o') ?_
        rotate_left
        · intro w2 hSw
          have s0 := hSw rfl
          go_simp
          try with_reducible rfl
        simp only [Act.put, List.getElem_toArray, List.getElem_cons_succ, List.getElem_cons_zero, List.setIfInBounds_toArray, List.set_cons_zero, List.set_cons_succ]
        refine Rt.C_take (none) (i := 2) (oi := _) (v := ?_) rfl (by kernel_rfl) (by kernel_rfl) (by kernel_rfl) (by kernel_rfl) (fun _ _ _ h => h) (Sc2.other (by decide)) (Or.inl ⟨by rfl, ?_⟩) (fun o' _ => hS1 o') ?_
        rotate_left
        · intro w2 hSw
          obtain ⟨s0, s1⟩ := hSw
          go_simp
          try with_reducible rfl
        simp only [Act.put, List.getElem_toArray, List.getElem_cons_succ, List.getElem_cons_zero, List.setIfInBounds_toArray, List.set_cons_zero, List.set_cons_succ]
        refine Rt.C_take (none) (i := 3) (oi := _) (v := ?_) rfl (by kernel_rfl) (by kernel_rfl) (by kernel_rfl) (by kernel_rfl) (fun _ _ _ h => h) (Sc2.other (by decide)) (Or.inl ⟨by rfl, ?_⟩) (fun o' _ => hS1 o') ?_
        rotate_left
        · intro w2 hSw
          obtain ⟨s0, s1⟩ := hSw
          go_simp
          try with_reducible rfl
        simp only [Act.put, List.getElem_toArray, List.getElem_cons_succ, List.getElem_cons_zero, List.setIfInBounds_toArray, List.set_cons_zero, List.set_cons_succ]
        refine Rt.C_take (none) (i := 4) (oi := _) (v := ?_) rfl (by kernel_rfl) (by kernel_rfl) (by kernel_rfl) (by kernel_rfl) (fun _ _ _ h => h) (Sc2.other (by decide)) (Or.inl ⟨by rfl, ?_⟩) (fun o' _ => hS1 o') ?_
        rotate_left
        · intro w2 hSw
          obtain ⟨s0, s1⟩ := hSw
          go_simp
          try with_reducible rfl
        simp only [Act.put, List.getElem_toArray, List.getElem_cons_succ, List.getElem_cons_zero, List.setIfInBounds_toArray, List.set_cons_zero, List.set_cons_succ]
        refine Rt.C_take (none) (i := 5) (oi := _) (v := ?_) rfl (by kernel_rfl) (by kernel_rfl) (by kernel_rfl) (by kernel_rfl) (fun _ _ _ h => h) (Sc2.other (by decide)) (Or.inl ⟨by rfl, ?_⟩) (fun o' _ => hS1 o') ?_
        rotate_left
        · intro w2 hSw
          obtain ⟨s0, s1⟩ := hSw
          go_simp
          try with_reducible rfl
        simp only [Act.put, List.getElem_toArray, List.getElem_cons_succ, List.getElem_cons_zero, List.setIfInBounds_toArray, List.set_cons_zero, List.set_cons_succ]
        refine Rt.C_take (none) (i := 6) (oi := _) (v := ?_) rfl (by kernel_rfl) (by kernel_rfl) (by kernel_rfl) (by kernel_rfl) (fun _ _ _ h => h) (Sc2.other (by decide)) (Or.inl ⟨by rfl, ?_⟩) (fun o' _ => hS1 o') ?_
        rotate_left
        · intro w2 hSw
          obtain ⟨s0, s1⟩ := hSw
          go_simp
          try with_reducible rfl
        simp only [Act.put, List.getElem_toArray, List.getElem_cons_succ, List.getElem_cons_zero, List.setIfInBounds_toArray, List.set_cons_zero, List.set_cons_succ]
        refine Rt.C_take (none) (i := 7) (oi := _) (v := ?_) rfl (by kernel_rfl) (by kernel_rfl) (by kernel_rfl) (by kernel_rfl) (fun _ _ _ h => h) (Sc2.other (by decide)) (Or.inl ⟨by rfl, ?_⟩) (fun o' _ => hS1 o') ?_
        rotate_left
        · intro w2 hSw
          obtain ⟨s0, s1⟩ := hSw
          go_simp
          try with_reducible rfl
        simp only [Act.put, List.getElem_toArray, List.getElem_cons_succ, List.getElem_cons_zero, List.setIfInBounds_toArray, List.set_cons_zero, List.set_cons_succ]
        refine Rt.C_take (none) (i := 8) (oi := _) (v := ?_) rfl (by kernel_rfl) (by kernel_rfl) (by kernel_rfl) (by kernel_rfl) (fun _ _ _ h => h) (Sc2.other (by decide)) (Or.inl ⟨by rfl, ?_⟩) (fun o' _ => hS1 o') ?_
        rotate_left
        · intro w2 hSw
          obtain ⟨s0, s1⟩ := hSw
          go_simp
          try with_reducible rfl
        simp only [Act.put, List.getElem_toArray, List.getElem_cons_succ, List.getElem_cons_zero, List.setIfInBounds_toArray, List.set_cons_zero, List.set_cons_succ]
        refine Rt.C_take (none) (i := 9) (oi := _) (v := ?_) rfl (by kernel_rfl) (by kernel_rfl) (by kernel_rfl) (by kernel_rfl) (fun _ _ _ h => h) (Sc2.other (by decide)) (Or.inl ⟨by rfl, ?_⟩) (fun o' _ => hS1 o') ?_
        rotate_left
        · intro w2 hSw
          obtain ⟨s0, s1⟩ := hSw
          go_simp
          try with_reducible rfl
        simp only [Act.put, List.getElem_toArray, List.getElem_cons_succ, List.getElem_cons_zero, List.setIfInBounds_toArray, List.set_cons_zero, List.set_cons_succ]
        refine Rt.C_take (none) (i := 10) (oi := _) (v := ?_) rfl (by kernel_rfl) (by kernel_rfl) (by kernel_rfl) (by kernel_rfl) (fun _ _ _ h => h) (Sc2.other (by decide)) (Or.inl ⟨by rfl, ?_⟩) (fun o' _ => hS1 o') ?_
        rotate_left
        · intro w2 hSw
          obtain ⟨s0, s1⟩ := hSw
          go_simp
          try with_reducible rfl
        simp only [Act.put, List.getElem_toArray, List.getElem_cons_succ, List.getElem_cons_zero, List.setIfInBounds_toArray, List.set_cons_zero, List.set_cons_succ]
        refine Rt.C_take (none) (i := 11) (oi := _) (v := ?_) rfl (by kernel_rfl) (by kernel_rfl) (by kernel_rfl) (by kernel_rfl) (fun _ _ _ h => h) (Sc2.other (by decide)) (Or.inl ⟨by rfl, ?_⟩) (fun o' _ => hS1 o') ?_
        rotate_left
        · intro w2 hSw
          obtain ⟨s0, s1⟩ := hSw
          go_simp
          try with_reducible rfl
        simp only [Act.put, List.getElem_toArray, List.getElem_cons_succ, List.getElem_cons_zero, List.setIfInBounds_toArray, List.set_cons_zero, List.set_cons_succ]
        refine Rt.C_take (none) (i := 12) (oi := _) (v := ?_) rfl (by kernel_rfl) (by kernel_rfl) (by kernel_rfl) (by kernel_rfl) (fun _ _ _ h => h) (Sc2.other (by decide)) (Or.inl ⟨by rfl, ?_⟩) (fun o' _ => hS1 o') ?_
        rotate_left
        · intro w2 hSw
          obtain ⟨s0, s1⟩ := hSw
          go_simp
          try with_reducible rfl
        simp only [Act.put, List.getElem_toArray, List.getElem_cons_succ, List.getElem_cons_zero, List.setIfInBounds_toArray, List.set_cons_zero, List.set_cons_succ]
        refine Rt.C_take (none) (i := 13) (oi := _) (v := ?_) rfl (by kernel_rfl) (by kernel_rfl) (by kernel_rfl) (by kernel_rfl) (fun _ _ _ h => h) (Sc2.other (by decide)) (Or.inl ⟨by rfl, ?_⟩) (fun o' _ => hS1 o') ?_
        rotate_left
        · intro w2 hSw
          obtain ⟨s0, s1⟩ := hSw
          go_simp
          try with_reducible rfl
        simp only [Act.put, List.getElem_toArray, List.getElem_cons_succ, List.getElem_cons_zero, List.setIfInBounds_toArray, List.set_cons_zero, List.set_cons_succ]
        refine Rt.C_take (none) (i := 14) (oi := _) (v := ?_) rfl (by kernel_rfl) (by kernel_rfl) (by kernel_rfl) (by kernel_rfl) (fun _ _ _ h => h) (Sc2.other (by decide)) (Or.inl ⟨by rfl, ?_⟩) (fun o' _ => hS1 o') ?_
        rotate_left
        · intro w2 hSw
          obtain ⟨s0, s1⟩ := hSw
          go_simp
          try with_reducible rfl
        simp only [Act.put, List.getElem_toArray, List.getElem_cons_succ, List.getElem_cons_zero, List.setIfInBounds_toArray, List.set_cons_zero, List.set_cons_succ]
        refine Rt.C_take (none) (i := 15) (oi := _) (v := ?_) rfl (by kernel_rfl) (by kernel_rfl) (by kernel_rfl) (by kernel_rfl) (fun _ _ _ h => h) (Sc2.other (by decide)) (Or.inl ⟨by rfl, ?_⟩) (fun o' _ => hS1 o') ?_
        rotate_left
        · intro w2 hSw
          obtain ⟨s0, s1⟩ := hSw
          go_simp
          try with_reducible rfl
        simp only [Act.put, List.getElem_toArray, List.getElem_cons_succ, List.getElem_cons_zero, List.setIfInBounds_toArray, List.set_cons_zero, List.set_cons_succ]
        refine Rt.C_take (none) (i := 16) (oi := _) (v := ?_) rfl (by kernel_rfl) (by kernel_rfl) (by kernel_rfl) (by kernel_rfl) (fun _ _ _ h => h) (Sc2.other (by decide)) (Or.inl ⟨by rfl, ?_⟩) (fun o' _ => hS1 o') ?_
        rotate_left
        · intro w2 hSw
          obtain ⟨s0, s1⟩ := hSw
          go_simp
          try with_reducible rfl
        simp only [Act.put, List.getElem_toArray, List.getElem_cons_succ, List.getElem_cons_zero, List.setIfInBounds_toArray, List.set_cons_zero, List.set_cons_succ]
        refine Rt.C_take (none) (i := 17) (oi := _) (v := (.slice (some ⟨g, 0 + lo, none⟩) W2 (m - lo))) rfl (by kernel_rfl) (by kernel_rfl) (by kernel_rfl) (by kernel_rfl) (fun _ _ _ h => h) (Sc2.other (by decide)) (Or.inl ⟨by rfl, ?_⟩) (fun o' _ => hS1 o') ?_
        · intro w2 hSw
          obtain ⟨s0, s1⟩ := hSw
          go_simp
          try with_reducible rfl
        simp only [Act.put, List.getElem_toArray, List.getElem_cons_succ, List.getElem_cons_zero, List.setIfInBounds_toArray, List.set_cons_zero, List.set_cons_succ]
        clear hS1
        refine Rt.C_ready (rs := [18]) (by kernel_rfl) (by simp) ?_
        refine Rt.AllC.cons (i := 18) (o := _) rfl (by rfl) (fun K' hK => ?_) ?_
        · skip
          refine wp_app_any _ _ rfl w402.heap.size vs (W2 * j) (flat W2 j fm) (by rfl) (own_keep HO.out hdr) g (0 + lo) W2 (m - lo) yl (by rfl) HYL.out (HSRC.out _ hdr) HWI.out.1 HWI.out.2 (Nat.le_trans HB5.out.size hdr.size) ?_
          intro av7 c7 w7 ho7 hg7
          have HU7 := Lib.hid (row_grown (own_keep HO.out hdr) hg7 (HU.out.keep hdr HU.out.lt) (by decide))
          have HBB7 := Lib.hid (row_grown (own_keep HO.out hdr) hg7 (HBB.out.keep hdr HBB.out.lt) (by decide))
          have HC7 := Lib.hid (row_grown (own_keep HO.out hdr) hg7 (HC.out.keep hdr HC.out.lt) (by decide))
          have HB57 := Lib.hid ((HB5.out.trans (hdr.mono HB5.out.size)).grown hg7 (Nat.le_trans HB5.out.size hdr.size) (own_low HO.out))
          have HO7 : Hid (w7.ownsRow w402.heap.size 3 1 (.slice av7 (W2 * (j + 1)) c7) (W2 * (j + 1)) ((flat W2 (j + 1) fm).map (Value.int .i64))) := Lib.hid (by rw [HROW.out, ← HMS.out]; exact ho7)
          rw [HMS.out]
          refine hK _ _ (fun o _ => Sc2.of ⟨HBB7.out.cell 0, HBB7.out.cell 2⟩ (HC7.out.cell 2) o) ?_
          clear hK K'
          simp only [Act.put, List.getElem_toArray, List.getElem_cons_succ, List.getElem_cons_zero, List.setIfInBounds_toArray, List.set_cons_zero, List.set_cons_succ]
          refine Rt.C_take (none) (i := 19) (oi := _) (v := ?_) rfl (by kernel_rfl) (by kernel_rfl) (by kernel_rfl) (by kernel_rfl) (fun _ _ _ h => h) (Sc2.other (by decide)) (Or.inl ⟨by rfl, ?_⟩) (fun o' _ => Sc2.of ⟨HBB7.out.cell 0, HBB7.out.cell 2⟩ (HC7.out.cell 2) o') ?_
          rotate_left
          · intro w2 hSw
            obtain ⟨s0, s1⟩ := hSw
            go_simp
            try with_reducible rfl
          simp only [Act.put, List.getElem_toArray, List.getElem_cons_succ, List.getElem_cons_zero, List.setIfInBounds_toArray, List.set_cons_zero, List.set_cons_succ]
          refine Rt.C_ready (rs := [20]) (by kernel_rfl) (by simp) ?_
          refine Rt.AllC.cons (i := 20) (o := _) rfl (by rfl) (fun K' hK => ?_) ?_
          · skip
            have c2 := HC7.out.cell 2
            have z2 := HC7.out.frozen 2
            dsimp only [List.getElem?_cons_succ, List.getElem?_cons_zero] at c2
            have HO9 := only_setCell w7 cb 2 (.slice av7 (W2 * (j + 1)) c7)
            have HU9 := Lib.hid (HU7.out.other HO9 HNC.out.1)
            have HBB9 := Lib.hid (HBB7.out.other HO9 HNC.out.2.1)
            have HC9 : Hid (Row (w7.setCell ⟨cb, 2, none⟩ (.slice av7 (W2 * (j + 1)) c7)) cb 26 [.int .i64 W2, .int .i64 H2, .slice av7 (W2 * (j + 1)) c7]) := Lib.hid (HC7.out.set 2 _)
            have HB59 := Lib.hid (HB57.out.trans (HO9.below HNC.out.2.2))
            have HO99 := Lib.hid (own_only HO7.out HO9 (own_ne HO7.out HC7.out (by decide)))
            go_simp
            refine hK _ _ (fun o hl => Sc2.late ⟨HBB9.out.cell 0, HBB9.out.cell 2⟩ (by rfl) o hl) ?_
            clear hK K'
            simp only [Act.put, List.getElem_toArray, List.getElem_cons_succ, List.getElem_cons_zero, List.setIfInBounds_toArray, List.set_cons_zero, List.set_cons_succ]
            refine Rt.C_done (by kernel_rfl) ?_ _
            refine NoPanic.normal ?_
            clear ho7 hg7 hdr c2 z2 HO9 HU HBB HC HB5 HU7 HBB7 HC7 HB57 HO7 HO e1 e2 e3 e4 e1' e2' e3' e4' hlh hhd hhc hcl
            generalize w7.setCell ⟨cb, 2, none⟩ (.slice av7 (W2 * (j + 1)) c7) = w9 at *
            have hyn := HJN.out.1
            have hyn' := wr_same hyn
            go_wp2_with fail
            go_roundw
            case rel => exact ⟨j + 1, _, HJH.out, rfl, HU9.out, HBB9.out, HC9.out, HO99.out, HB59.out⟩
            case measure => exact HJN.out.2
          exact Rt.AllC.nil
        exact Rt.AllC.nil
      · obtain rfl : j = H2 := by clear s1 s1'; omega
        have hle : ¬ (yy : Int) < (h1 : Int) := by clear s1 s1'; omega
        obtain ⟨am, cm, hve, hvn, hvm, hvi, hvb⟩ := own_is HO.out
        subst hve
        have HI2 := Lib.hid hvi
        have HCM := Lib.hid hvn
        have HB := Lib.hid (HB.out.trans (HB5.out.mono HB.out.size))
        clear hvn hvm hvi hvb HO hj hjh hyy hh1 HB5
        obtain ⟨w500, hw500⟩ : ∃ w500, w500 = wr := ⟨_, rfl⟩
        rw [← hw500] at HU HC HI2 HB b1 ⊢
        clear hw500 HBB
        have l0 := row_range HU.out
        have l1 := row_range HC.out
        go_wp2_with (first | (refine wpList_load_mid rfl 24 _ rfl ub 0 rfl _ _ l0 Tryd.underlying24 rfl infoRule ?_) | (refine wpList_load_mid rfl 26 _ rfl cb 0 rfl _ _ l1 Tryd.underlying26 rfl infoPat ?_))
        refine (KP.out w500 am cm HB.out HCM.out HI2.out).mono ?_
        rintro e501 w501 ⟨⟨a3, n3, c3, rfl, hi3⟩, hb501⟩
        clear l0 l1
        have HI3 := Lib.hid hi3
        clear hi3
        have HU := Lib.hid (HU.out.keep hb501 HU.out.lt)
        have HC := Lib.hid (HC.out.keep hb501 HC.out.lt)
        have HI2 := Lib.hid (HI2.out.keep hb501)
        have HB := Lib.hid (HB.out.trans (hb501.mono HB.out.size))
        clear hb501
        clear s1 s1' b1 hle
        have HNHD : Hid (ub ≠ w501.heap.size ∧ cb ≠ w501.heap.size ∧ w.heap.size ≤ w501.heap.size) := Lib.hid ⟨Nat.ne_of_lt HU.out.lt, Nat.ne_of_lt HC.out.lt, HB.out.size⟩
        go_upto_region 25 with fail
        have hrx : Row (w501.alloc (.cells #[.int .i64 W3, .int .i64 H3, .slice a3 n3 c3] 26)) w501.heap.size 26 (boxP W3 H3 a3 n3 c3) := row_alloc w501 _ _
        have hbx : Below w501.heap.size w501 (w501.alloc (.cells #[.int .i64 W3, .int .i64 H3, .slice a3 n3 c3] 26)) := (Below.refl _ _).alloc (Nat.le_refl _) _
        have HU := Lib.hid (HU.out.keep hbx HU.out.lt)
        have HC := Lib.hid (HC.out.keep hbx HC.out.lt)
        have HI2 := Lib.hid (HI2.out.keep hbx)
        have HI3 := Lib.hid (HI3.out.keep hbx)
        have HB := Lib.hid (HB.out.trans (hbx.mono HB.out.size))
        clear hbx
        have HD := Lib.hid hrx
        clear hrx
        generalize w501.alloc (.cells #[.int .i64 W3, .int .i64 H3, .slice a3 n3 c3] 26) = w502 at *
        obtain ⟨db, hdb⟩ : ∃ db, db = w501.heap.size := ⟨_, rfl⟩
        rw [← hdb] at HD HNHD ⊢
        clear hdb
        have l0 := row_range HU.out
        have l1 := row_range HD.out
        have l2 := row_range HC.out
        go_wp2_with (first | (refine wpList_load_mid rfl 24 _ rfl ub 0 rfl _ _ l0 Tryd.underlying24 rfl infoRule ?_) | (refine wpList_load_mid rfl 26 _ rfl db 0 rfl _ _ l1 Tryd.underlying26 rfl infoPat ?_) | (refine wpList_load_mid rfl 26 _ rfl cb 0 rfl _ _ l2 Tryd.underlying26 rfl infoPat ?_))
        refine (KM.out _ am cm a3 n3 c3 HB.out HI2.out HI3.out).mono ?_
        rintro e503 w503 ⟨rfl, hb503⟩
        clear l0 l1 l2
        have HU := Lib.hid (HU.out.keep hb503 HU.out.lt)
        have HC := Lib.hid (HC.out.keep hb503 HC.out.lt)
        have HD := Lib.hid (HD.out.keep hb503 HD.out.lt)
        have HI2 := Lib.hid (HI2.out.keep hb503)
        have HI3 := Lib.hid (HI3.out.keep hb503)
        have HB := Lib.hid (HB.out.trans (hb503.mono HB.out.size))
        clear hb503
        go_wp2_with fail
        go_ret
        exact ⟨by simp, HB.out⟩
end Pn
end Go.Proofs.YthipeeagpllfeaaDoor
