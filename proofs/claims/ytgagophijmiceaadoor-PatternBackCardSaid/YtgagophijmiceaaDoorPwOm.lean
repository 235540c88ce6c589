/- Several texts laid together: PwOr PwCo PwMn. -/
import Derived.Test.YtgagophijmiceaaDoorPwTn
import Derived.Test.YtgagophijmiceaaDoorPwB
import Derived.Test.YtgagophijmiceaaDoorPnO
/- WALK: slices.Compare at ints, cmp.Or at ints. -/
namespace Go.Proofs.YtgagophijmiceaaDoor
set_option linter.unusedSimpArgs false
set_option linter.unusedVariables false
open Go.RowKit
namespace Pw
open Tld Mem Bl Pn

/-- The first number that is not 0. -/
def fnz : List Int → Int
  | [] => 0
  | x :: l => if x = 0 then fnz l else x
theorem cmpI (x y : Int) : Lib.compareInt x y = if x < y then -1 else if y < x then 1 else 0 := by
  unfold Lib.compareInt
  by_cases h : x < y
  · simp [h]
  · by_cases h2 : y < x
    · simp [h, h2]
    · simp [h, h2]
theorem lessL_cons (x y : Int) (l m : List Int) : lessL (x :: l) (y :: m) = if Lib.compareInt x y = 0 then lessL l m else Lib.compareInt x y := by
  rw [cmpI]
  show (if x < y then -1 else if y < x then 1 else lessL l m) = _
  by_cases h : x < y
  · rw [if_pos h, if_pos h, if_neg (by decide)]
  · rw [if_neg h, if_neg h]
    by_cases h2 : y < x
    · rw [if_pos h2, if_pos h2, if_neg (by decide)]
    · rw [if_neg h2, if_neg h2, if_pos rfl]
theorem ordP_fnz (W H : Nat) (zs : List Int) (W' H' : Nat) (zs' : List Int) : ordP W H zs W' H' zs' = fnz [Lib.compareInt H H', Lib.compareInt W W', lessL zs zs'] := by
  have key : ∀ (a b : Nat) (r : Int), (if Lib.compareInt a b = 0 then r else Lib.compareInt a b) = if a < b then -1 else if b < a then 1 else r := fun a b r => by
    rw [cmpI]
    by_cases h : a < b
    · have h' : (a : Int) < (b : Int) := by omega
      simp [h, h']
    · have h' : ¬ (a : Int) < (b : Int) := by omega
      by_cases h2 : b < a
      · have h2' : (b : Int) < (a : Int) := by omega
        simp [h, h', h2, h2']
      · have h2' : ¬ (b : Int) < (a : Int) := by omega
        simp [h, h', h2, h2']
  have e : ∀ x : Int, (if x = 0 then (0 : Int) else x) = x := fun x => by split <;> simp_all
  show _ = (if Lib.compareInt H H' = 0 then (if Lib.compareInt W W' = 0 then (if lessL zs zs' = 0 then 0 else lessL zs zs') else Lib.compareInt W W') else Lib.compareInt H H')
  rw [e, key, key]
  rfl
theorem drop_at {zs : List Int} {i : Nat} (h : i < zs.length) : zs.drop i = zs.getD i 0 :: zs.drop (i + 1) := by
  rw [List.drop_eq_getElem_cons h, List.getD_eq_getElem?_getD, List.getElem?_eq_getElem h]
  rfl

set_option maxHeartbeats 4000000 in
set_option maxRecDepth 100000 in
theorem compare_any (a1 : Option Addr) (n1 c1 : Nat) (z1 : List Int) (a2 : Option Addr) (n2 c2 : Nat) (z2 : List Int) (w : World) (h1 : Ints.Is w a1 n1 z1) (h2 : Ints.Is w a2 n2 z2) (hn1 : n1 ≤ 1000000) (hn2 : n2 ≤ 1000000) :
    Calls Tryd.prog 73 #[.slice a1 n1 c1, .slice a2 n2 c2] w fun e w' => e = .returned (.int .i64 (lessL z1 z2)) ∧ w' = w := by
  have H1 := Lib.hid h1
  have H2 := Lib.hid h2
  have HB1 := Lib.hid hn1
  clear h1 h2 hn1 hn2
  go_enter Tryd.func73, Tryd.ntmps73
  go_wp2_with fail
  go_loopw [11] (fun v wr => (∃ i : Nat, v = .int .i64 ((i : Nat) : Int) ∧ i ≤ n1 ∧ i ≤ n2 ∧ lessL (z1.drop i) (z2.drop i) = lessL z1 z2) ∧ w = wr) (fun v _ => n1 - (RowKit.intOf v).toNat)
  case atStart => exact ⟨⟨0, rfl, Nat.zero_le _, Nat.zero_le _, rfl⟩, rfl⟩
  case round =>
    obtain ⟨⟨i, rfl, hi1, hi2, hl⟩, rfl⟩ := hrel
    have HL := Lib.hid hl
    clear hl
    by_cases hi : i < n1
    · have hii : (i : Int) < (n1 : Int) := by omega
      obtain ⟨b1, o1, e1, _, g1⟩ := H1.out.cells i hi
      subst e1
      dsimp only at g1
      obtain ⟨x, hx⟩ : ∃ x, x = z1.getD i 0 := ⟨_, rfl⟩
      rw [← hx] at g1
      by_cases hj : i < n2
      · have hjj : ¬ (n2 : Int) ≤ (i : Int) := by omega
        have hjk : (i : Int) < (n2 : Int) := by omega
        obtain ⟨b2, o2, e2, _, g2⟩ := H2.out.cells i hj
        subst e2
        dsimp only at g2
        obtain ⟨y, hy⟩ : ∃ y, y = z2.getD i 0 := ⟨_, rfl⟩
        rw [← hy] at g2
        have HLN : Hid ((if Lib.compareInt x y = 0 then lessL (z1.drop (i + 1)) (z2.drop (i + 1)) else Lib.compareInt x y) = lessL z1 z2) := Lib.hid (by
          have q1 := drop_at (zs := z1) (i := i) (by rw [H1.out.len]; exact hi)
          have q2 := drop_at (zs := z2) (i := i) (by rw [H2.out.len]; exact hj)
          rw [← HL.out, q1, q2, lessL_cons, hx, hy])
        have HC := Lib.hid (fun w2 => Tryd.cmp_Compare_int x y w2)
        obtain ⟨cv, hcv⟩ : ∃ cv, cv = Lib.compareInt x y := ⟨_, rfl⟩
        rw [← hcv] at HLN HC
        have HI := Lib.hid (And.intro hi hj)
        have E1 : Hid (wrap64 ((i : Int) + 1) = ((i + 1 : Nat) : Int)) := Lib.hid (wr_nat (by push_cast; rfl) (by have := HB1.out; omega))
        clear hcv hx hy hi hj
        by_cases hc0 : cv = 0
        · subst hc0
          have HLN : Hid (lessL (z1.drop (i + 1)) (z2.drop (i + 1)) = lessL z1 z2) := Lib.hid (by have h := HLN.out; rw [if_pos rfl] at h; exact h)
          go_wp2_with fail
          refine (HC.out w).mono ?_
          rintro e5 w5 ⟨rfl, rfl⟩
          go_wp2_with fail
          go_roundw
          case rel => exact ⟨⟨i + 1, congrArg (Value.int .i64) E1.out, HI.out.1, HI.out.2, HLN.out⟩, trivial⟩
          case measure => exact meas E1.out (by have := HI.out; omega)
        · have hcb : (cv != 0) = true := by rw [bne_iff_ne]; exact hc0
          have HLN : Hid (cv = lessL z1 z2) := Lib.hid (by have h := HLN.out; rw [if_neg hc0] at h; exact h)
          go_wp2_with fail
          refine (HC.out w).mono ?_
          rintro e5 w5 ⟨rfl, rfl⟩
          go_wp2_with fail
          go_ret
          exact ⟨by rw [← HLN.out]; rfl, rfl⟩
      · have hjj : (n2 : Int) ≤ (i : Int) := by omega
        have HE : Hid (lessL z1 z2 = 1) := Lib.hid (by
          have q1 := drop_at (zs := z1) (i := i) (by rw [H1.out.len]; exact hi)
          rw [← HL.out, q1, List.drop_eq_nil_of_le (show z2.length ≤ i by rw [H2.out.len]; omega)]
          rfl)
        clear hi hj hx
        go_wp2_with fail
        go_ret
        exact ⟨by rw [HE.out]; rfl, rfl⟩
    · have hii : ¬ (i : Int) < (n1 : Int) := by omega
      obtain rfl : i = n1 := by omega
      have HD : Hid (z1.drop i = []) := Lib.hid (List.drop_eq_nil_of_le (by rw [H1.out.len]; exact Nat.le_refl _))
      by_cases hj : i < n2
      · have hjk : (i : Int) < (n2 : Int) := by omega
        have HE : Hid (lessL z1 z2 = -1) := Lib.hid (by
          have q2 := drop_at (zs := z2) (i := i) (by rw [H2.out.len]; exact hj)
          rw [← HL.out, HD.out, q2]
          rfl)
        clear hi hj
        go_wp2_with fail
        go_ret
        exact ⟨by rw [HE.out]; rfl, rfl⟩
      · have hjk : ¬ (i : Int) < (n2 : Int) := by omega
        have HE : Hid (lessL z1 z2 = 0) := Lib.hid (by
          rw [← HL.out, HD.out, List.drop_eq_nil_of_le (show z2.length ≤ i by rw [H2.out.len]; omega)]
          rfl)
        clear hi hj
        go_wp2_with fail
        go_ret
        exact ⟨by rw [HE.out]; rfl, rfl⟩

set_option maxHeartbeats 4000000 in
set_option maxRecDepth 100000 in
theorem or_any (b n c : Nat) (zs : List Int) (w : World) (hl : zs.length = n) (hn : n ≤ 1000) (hr : Row w b 3 (zs.map (Value.int .i64))) :
    Calls Tryd.prog 71 #[.slice (some ⟨b, 0, none⟩) n c] w fun e w' => e = .returned (.int .i64 (fnz zs)) ∧ w' = w := by
  have HR := Lib.hid hr
  have HN := Lib.hid hl
  have HB1 := Lib.hid hn
  clear hr hl hn
  go_enter Tryd.func71, Tryd.ntmps71
  go_wp2_with fail
  go_loopw [8] (fun v wr => (∃ i : Nat, v = .int .i64 ((i : Nat) : Int) ∧ i ≤ n ∧ fnz (zs.drop i) = fnz zs) ∧ w = wr) (fun v _ => n - (RowKit.intOf v).toNat)
  case atStart => exact ⟨⟨0, rfl, Nat.zero_le _, rfl⟩, rfl⟩
  case round =>
    obtain ⟨⟨i, rfl, hi1, hl⟩, rfl⟩ := hrel
    have HL := Lib.hid hl
    clear hl
    by_cases hi : i < n
    · have hii : (i : Int) < (n : Int) := by omega
      have hc := HR.out.cell i
      rw [List.getElem?_map, List.getElem?_eq_getElem (show i < zs.length by rw [HN.out]; exact hi)] at hc
      obtain ⟨x, hx⟩ : ∃ x, x = zs.getD i 0 := ⟨_, rfl⟩
      have hxe : zs[i]'(by rw [HN.out]; exact hi) = x := by rw [hx, List.getD_eq_getElem?_getD, List.getElem?_eq_getElem]; rfl
      rw [hxe] at hc
      dsimp only [Option.map_some] at hc
      have HLN : Hid ((if x = 0 then fnz (zs.drop (i + 1)) else x) = fnz zs) := Lib.hid (by
        have q1 := drop_at (zs := zs) (i := i) (by rw [HN.out]; exact hi)
        rw [← HL.out, q1, hx]
        rfl)
      have HI := Lib.hid hi
      have E1 : Hid (wrap64 ((i : Int) + 1) = ((i + 1 : Nat) : Int)) := Lib.hid (wr_nat (by push_cast; rfl) (by have := HB1.out; omega))
      clear hx hxe hi
      by_cases hx0 : x = 0
      · subst hx0
        have HLN : Hid (fnz (zs.drop (i + 1)) = fnz zs) := Lib.hid (by have h := HLN.out; rw [if_pos rfl] at h; exact h)
        go_wp2_with fail
        go_roundw
        case rel => exact ⟨⟨i + 1, congrArg (Value.int .i64) E1.out, HI.out, HLN.out⟩, trivial⟩
        case measure => exact meas E1.out (by have := HI.out; omega)
      · have hcb : (x != 0) = true := by rw [bne_iff_ne]; exact hx0
        have HLN : Hid (x = fnz zs) := Lib.hid (by have h := HLN.out; rw [if_neg hx0] at h; exact h)
        go_wp2_with fail
        go_ret
        exact ⟨by rw [← HLN.out]; rfl, rfl⟩
    · have hii : ¬ (i : Int) < (n : Int) := by omega
      have HE : Hid (fnz zs = 0) := Lib.hid (by
        rw [← HL.out, List.drop_eq_nil_of_le (show zs.length ≤ i by rw [HN.out]; omega)]
        rfl)
      clear hi
      go_wp2_with fail
      go_ret
      exact ⟨by rw [HE.out]; rfl, rfl⟩
end Pw
end Go.Proofs.YtgagophijmiceaaDoor

/- WALK: pattern.order. -/
namespace Go.Proofs.YtgagophijmiceaaDoor
set_option linter.unusedSimpArgs false
set_option linter.unusedVariables false
open Go.RowKit
namespace Pw
open Tld Mem Bl Pn

set_option maxHeartbeats 8000000 in
set_option maxRecDepth 1000000 in
theorem order_any (W1 H1 : Nat) (a1 : Option Addr) (n1 c1 : Nat) (z1 : List Int) (W2 H2 : Nat) (a2 : Option Addr) (n2 c2 : Nat) (z2 : List Int) (w : World) (h1 : Ints.Is w a1 n1 z1) (h2 : Ints.Is w a2 n2 z2) (hn1 : n1 ≤ 1000000) (hn2 : n2 ≤ 1000000) :
    Calls Tryd.prog 50 #[.agg #[.int .i64 (W1 : Nat), .int .i64 (H1 : Nat), .slice a1 n1 c1], .agg #[.int .i64 (W2 : Nat), .int .i64 (H2 : Nat), .slice a2 n2 c2]] w fun e w' => e = .returned (.int .i64 (ordP W1 H1 z1 W2 H2 z2)) ∧ Below w.heap.size w w' := by
  have HE := Lib.hid (ordP_fnz W1 H1 z1 W2 H2 z2)
  have HC1 := Lib.hid (fun w2 => Tryd.cmp_Compare_int H1 H2 w2)
  have HC2 := Lib.hid (fun w2 => Tryd.cmp_Compare_int W1 W2 w2)
  have HC3 := Lib.hid (fun w2 (hb : Below w.heap.size w w2) => compare_any a1 n1 c1 z1 a2 n2 c2 z2 w2 (h1.keep hb) (h2.keep hb) hn1 hn2)
  generalize Lib.compareInt H1 H2 = x1 at *
  generalize Lib.compareInt W1 W2 = x2 at *
  generalize lessL z1 z2 = x3 at *
  clear h1 h2 hn1 hn2
  go_enter Tryd.func50, Tryd.ntmps50
  go_upto_region 1 with fail
  obtain ⟨hr2, hr3, hb2⟩ := two_new w 35 35 (boxP W1 H1 a1 n1 c1) (boxP W2 H2 a2 n2 c2)
  have HP : Hid (Row ((w.alloc (.cells #[.int .i64 (W1 : Nat), .int .i64 (H1 : Nat), .slice a1 n1 c1] 35)).alloc (.cells #[.int .i64 (W2 : Nat), .int .i64 (H2 : Nat), .slice a2 n2 c2] 35)) w.heap.size 35 (boxP W1 H1 a1 n1 c1)) := hr2
  have HQ : Hid (Row ((w.alloc (.cells #[.int .i64 (W1 : Nat), .int .i64 (H1 : Nat), .slice a1 n1 c1] 35)).alloc (.cells #[.int .i64 (W2 : Nat), .int .i64 (H2 : Nat), .slice a2 n2 c2] 35)) (w.heap.size + 1) 35 (boxP W2 H2 a2 n2 c2)) := hr3
  have HB : Hid (Below w.heap.size w ((w.alloc (.cells #[.int .i64 (W1 : Nat), .int .i64 (H1 : Nat), .slice a1 n1 c1] 35)).alloc (.cells #[.int .i64 (W2 : Nat), .int .i64 (H2 : Nat), .slice a2 n2 c2] 35))) := hb2
  clear hr2 hr3 hb2
  generalize (w.alloc (.cells #[.int .i64 (W1 : Nat), .int .i64 (H1 : Nat), .slice a1 n1 c1] 35)).alloc (.cells #[.int .i64 (W2 : Nat), .int .i64 (H2 : Nat), .slice a2 n2 c2] 35) = w1 at *
  obtain ⟨pb, hpb⟩ : ∃ pb, pb = w.heap.size := ⟨_, rfl⟩
  rw [← hpb] at HP HQ ⊢
  obtain ⟨qb, hqb⟩ : ∃ qb, qb = pb + 1 := ⟨_, rfl⟩
  rw [← hqb] at HQ ⊢
  clear hpb hqb
  have hdr : Below w1.heap.size w1 w1.drew := (Below.refl _ _).drew
  have HP := Lib.hid (HP.out.keep hdr HP.out.lt)
  have HQ := Lib.hid (HQ.out.keep hdr HQ.out.lt)
  have HB := Lib.hid (HB.out.trans (hdr.mono HB.out.size))
  clear hdr
  refine wp_region_noPanic ?_
  refine Rt.region_Cn (Sc2 (fun w2 => w2.cell? ⟨pb, 0, none⟩ = some (.int .i64 (W1 : Nat)) ∧ w2.cell? ⟨pb, 1, none⟩ = some (.int .i64 (H1 : Nat)) ∧ w2.cell? ⟨pb, 2, none⟩ = some (.slice a1 n1 c1) ∧ w2.cell? ⟨qb, 0, none⟩ = some (.int .i64 (W2 : Nat)) ∧ w2.cell? ⟨qb, 1, none⟩ = some (.int .i64 (H2 : Nat)) ∧ w2.cell? ⟨qb, 2, none⟩ = some (.slice a2 n2 c2)) (fun w2 => True) 999) 18 #[false, false, false, false, false, false, false, false, false, false, false, false, false, false, false, false, false, false] (by kernel_rfl) (by kernel_rfl) (by kernel_rfl) ?_
  have hS1 : ∀ o, Sc2 (fun w2 => w2.cell? ⟨pb, 0, none⟩ = some (.int .i64 (W1 : Nat)) ∧ w2.cell? ⟨pb, 1, none⟩ = some (.int .i64 (H1 : Nat)) ∧ w2.cell? ⟨pb, 2, none⟩ = some (.slice a1 n1 c1) ∧ w2.cell? ⟨qb, 0, none⟩ = some (.int .i64 (W2 : Nat)) ∧ w2.cell? ⟨qb, 1, none⟩ = some (.int .i64 (H2 : Nat)) ∧ w2.cell? ⟨qb, 2, none⟩ = some (.slice a2 n2 c2)) (fun w2 => True) 999 o w1.drew := Sc2.of ⟨HP.out.cell 0, HP.out.cell 1, HP.out.cell 2, HQ.out.cell 0, HQ.out.cell 1, HQ.out.cell 2⟩ trivial
  refine Rt.C_take (none) (i := 0) (oi := _) (v := ?_) rfl (by kernel_rfl) (by kernel_rfl) (by kernel_rfl) (by kernel_rfl) (fun _ _ _ h => h) (Sc2.other (by decide)) (Or.inl ⟨by rfl, ?_⟩) (fun o' _ => hS1 o') ?_
  rotate_left
  · intro w2 hSw
    obtain ⟨s0, s1, s2, s3, s4, s5⟩ := hSw
    go_simp
    try with_reducible rfl
  simp only [Act.put, List.getElem_toArray, List.getElem_cons_succ, List.getElem_cons_zero, List.setIfInBounds_toArray, List.set_cons_zero, List.set_cons_succ]
  refine Rt.C_take (none) (i := 1) (oi := _) (v := ?_) rfl (by kernel_rfl) (by kernel_rfl) (by kernel_rfl) (by kernel_rfl) (fun _ _ _ h => h) (Sc2.other (by decide)) (Or.inl ⟨by rfl, ?_⟩) (fun o' _ => hS1 o') ?_
  rotate_left
  · intro w2 hSw
    obtain ⟨s0, s1, s2, s3, s4, s5⟩ := hSw
    go_simp
    try with_reducible rfl
  simp only [Act.put, List.getElem_toArray, List.getElem_cons_succ, List.getElem_cons_zero, List.setIfInBounds_toArray, List.set_cons_zero, List.set_cons_succ]
  refine Rt.C_take (none) (i := 2) (oi := _) (v := ?_) rfl (by kernel_rfl) (by kernel_rfl) (by kernel_rfl) (by kernel_rfl) (fun _ _ _ h => h) (Sc2.other (by decide)) (Or.inl ⟨by rfl, ?_⟩) (fun o' _ => hS1 o') ?_
  rotate_left
  · intro w2 hSw
    obtain ⟨s0, s1, s2, s3, s4, s5⟩ := hSw
    go_simp
    try with_reducible rfl
  simp only [Act.put, List.getElem_toArray, List.getElem_cons_succ, List.getElem_cons_zero, List.setIfInBounds_toArray, List.set_cons_zero, List.set_cons_succ]
  refine Rt.C_take (none) (i := 3) (oi := _) (v := ?_) rfl (by kernel_rfl) (by kernel_rfl) (by kernel_rfl) (by kernel_rfl) (fun _ _ _ h => h) (Sc2.other (by decide)) (Or.inl ⟨by rfl, ?_⟩) (fun o' _ => hS1 o') ?_
  rotate_left
  · intro w2 hSw
    obtain ⟨s0, s1, s2, s3, s4, s5⟩ := hSw
    go_simp
    try with_reducible rfl
  simp only [Act.put, List.getElem_toArray, List.getElem_cons_succ, List.getElem_cons_zero, List.setIfInBounds_toArray, List.set_cons_zero, List.set_cons_succ]
  refine Rt.C_take (none) (i := 5) (oi := _) (v := ?_) rfl (by kernel_rfl) (by kernel_rfl) (by kernel_rfl) (by kernel_rfl) (fun _ _ _ h => h) (Sc2.other (by decide)) (Or.inl ⟨by rfl, ?_⟩) (fun o' _ => hS1 o') ?_
  rotate_left
  · intro w2 hSw
    obtain ⟨s0, s1, s2, s3, s4, s5⟩ := hSw
    go_simp
    try with_reducible rfl
  simp only [Act.put, List.getElem_toArray, List.getElem_cons_succ, List.getElem_cons_zero, List.setIfInBounds_toArray, List.set_cons_zero, List.set_cons_succ]
  refine Rt.C_take (none) (i := 6) (oi := _) (v := ?_) rfl (by kernel_rfl) (by kernel_rfl) (by kernel_rfl) (by kernel_rfl) (fun _ _ _ h => h) (Sc2.other (by decide)) (Or.inl ⟨by rfl, ?_⟩) (fun o' _ => hS1 o') ?_
  rotate_left
  · intro w2 hSw
    obtain ⟨s0, s1, s2, s3, s4, s5⟩ := hSw
    go_simp
    try with_reducible rfl
  simp only [Act.put, List.getElem_toArray, List.getElem_cons_succ, List.getElem_cons_zero, List.setIfInBounds_toArray, List.set_cons_zero, List.set_cons_succ]
  refine Rt.C_take (none) (i := 7) (oi := _) (v := ?_) rfl (by kernel_rfl) (by kernel_rfl) (by kernel_rfl) (by kernel_rfl) (fun _ _ _ h => h) (Sc2.other (by decide)) (Or.inl ⟨by rfl, ?_⟩) (fun o' _ => hS1 o') ?_
  rotate_left
  · intro w2 hSw
    obtain ⟨s0, s1, s2, s3, s4, s5⟩ := hSw
    go_simp
    try with_reducible rfl
  simp only [Act.put, List.getElem_toArray, List.getElem_cons_succ, List.getElem_cons_zero, List.setIfInBounds_toArray, List.set_cons_zero, List.set_cons_succ]
  refine Rt.C_take (none) (i := 8) (oi := _) (v := ?_) rfl (by kernel_rfl) (by kernel_rfl) (by kernel_rfl) (by kernel_rfl) (fun _ _ _ h => h) (Sc2.other (by decide)) (Or.inl ⟨by rfl, ?_⟩) (fun o' _ => hS1 o') ?_
  rotate_left
  · intro w2 hSw
    obtain ⟨s0, s1, s2, s3, s4, s5⟩ := hSw
    go_simp
    try with_reducible rfl
  simp only [Act.put, List.getElem_toArray, List.getElem_cons_succ, List.getElem_cons_zero, List.setIfInBounds_toArray, List.set_cons_zero, List.set_cons_succ]
  refine Rt.C_take (none) (i := 10) (oi := _) (v := ?_) rfl (by kernel_rfl) (by kernel_rfl) (by kernel_rfl) (by kernel_rfl) (fun _ _ _ h => h) (Sc2.other (by decide)) (Or.inl ⟨by rfl, ?_⟩) (fun o' _ => hS1 o') ?_
  rotate_left
  · intro w2 hSw
    obtain ⟨s0, s1, s2, s3, s4, s5⟩ := hSw
    go_simp
    try with_reducible rfl
  simp only [Act.put, List.getElem_toArray, List.getElem_cons_succ, List.getElem_cons_zero, List.setIfInBounds_toArray, List.set_cons_zero, List.set_cons_succ]
  refine Rt.C_take (none) (i := 11) (oi := _) (v := ?_) rfl (by kernel_rfl) (by kernel_rfl) (by kernel_rfl) (by kernel_rfl) (fun _ _ _ h => h) (Sc2.other (by decide)) (Or.inl ⟨by rfl, ?_⟩) (fun o' _ => hS1 o') ?_
  rotate_left
  · intro w2 hSw
    obtain ⟨s0, s1, s2, s3, s4, s5⟩ := hSw
    go_simp
    try with_reducible rfl
  simp only [Act.put, List.getElem_toArray, List.getElem_cons_succ, List.getElem_cons_zero, List.setIfInBounds_toArray, List.set_cons_zero, List.set_cons_succ]
  refine Rt.C_take (none) (i := 12) (oi := _) (v := ?_) rfl (by kernel_rfl) (by kernel_rfl) (by kernel_rfl) (by kernel_rfl) (fun _ _ _ h => h) (Sc2.other (by decide)) (Or.inl ⟨by rfl, ?_⟩) (fun o' _ => hS1 o') ?_
  rotate_left
  · intro w2 hSw
    obtain ⟨s0, s1, s2, s3, s4, s5⟩ := hSw
    go_simp
    try with_reducible rfl
  simp only [Act.put, List.getElem_toArray, List.getElem_cons_succ, List.getElem_cons_zero, List.setIfInBounds_toArray, List.set_cons_zero, List.set_cons_succ]
  refine Rt.C_take (none) (i := 13) (oi := _) (v := ?_) rfl (by kernel_rfl) (by kernel_rfl) (by kernel_rfl) (by kernel_rfl) (fun _ _ _ h => h) (Sc2.other (by decide)) (Or.inl ⟨by rfl, ?_⟩) (fun o' _ => hS1 o') ?_
  rotate_left
  · intro w2 hSw
    obtain ⟨s0, s1, s2, s3, s4, s5⟩ := hSw
    go_simp
    try with_reducible rfl
  simp only [Act.put, List.getElem_toArray, List.getElem_cons_succ, List.getElem_cons_zero, List.setIfInBounds_toArray, List.set_cons_zero, List.set_cons_succ]
  refine Rt.C_ready (rs := [4]) (by kernel_rfl) (by simp) ?_
  refine Rt.AllC.cons (i := 4) (o := _) rfl (by rfl) (fun K' hK => ?_) ?_
  · skip
    go_simp
    refine (HC1.out _).mono ?_
    rintro e5 w5 ⟨rfl, hw5⟩
    subst hw5
    go_simp
    refine hK _ _ (fun o' _ => hS1 o') ?_
    clear hK K'
    simp only [Act.put, List.getElem_toArray, List.getElem_cons_succ, List.getElem_cons_zero, List.setIfInBounds_toArray, List.set_cons_zero, List.set_cons_succ]
    refine Rt.C_ready (rs := [9]) (by kernel_rfl) (by simp) ?_
    refine Rt.AllC.cons (i := 9) (o := _) rfl (by rfl) (fun K' hK => ?_) ?_
    · skip
      go_simp
      refine (HC2.out _).mono ?_
      rintro e5 w5 ⟨rfl, hw5⟩
      subst hw5
      go_simp
      refine hK _ _ (fun o' _ => hS1 o') ?_
      clear hK K'
      simp only [Act.put, List.getElem_toArray, List.getElem_cons_succ, List.getElem_cons_zero, List.setIfInBounds_toArray, List.set_cons_zero, List.set_cons_succ]
      refine Rt.C_ready (rs := [14]) (by kernel_rfl) (by simp) ?_
      refine Rt.AllC.cons (i := 14) (o := _) rfl (by rfl) (fun K' hK => ?_) ?_
      · skip
        go_simp
        refine (HC3.out _ HB.out).mono ?_
        rintro e5 w5 ⟨rfl, hw5⟩
        subst hw5
        go_simp
        refine hK _ _ (fun o' _ => hS1 o') ?_
        clear hK K'
        simp only [Act.put, List.getElem_toArray, List.getElem_cons_succ, List.getElem_cons_zero, List.setIfInBounds_toArray, List.set_cons_zero, List.set_cons_succ]
        refine Rt.C_ready (rs := [15]) (by kernel_rfl) (by simp) ?_
        refine Rt.AllC.cons (i := 15) (o := _) rfl (by rfl) (fun K' hK => ?_) ?_
        · skip
          have hnew := row_alloc w1.drew 3 [.int .i64 x1, .int .i64 x2, .int .i64 x3]
          have hbn : Below w1.drew.heap.size w1.drew (w1.drew.alloc (.cells [.int .i64 x1, .int .i64 x2, .int .i64 x3].toArray 3)) := (Below.refl _ _).alloc (Nat.le_refl _) _
          have HP := Lib.hid (HP.out.keep hbn HP.out.lt)
          have HQ := Lib.hid (HQ.out.keep hbn HQ.out.lt)
          have HB := Lib.hid (HB.out.trans (hbn.mono HB.out.size))
          have HOR := Lib.hid (or_any w1.drew.heap.size 3 3 [x1, x2, x3] _ rfl (by decide) hnew)
          clear hnew hbn
          go_simp
          refine hK _ _ (fun o _ => Sc2.of ⟨HP.out.cell 0, HP.out.cell 1, HP.out.cell 2, HQ.out.cell 0, HQ.out.cell 1, HQ.out.cell 2⟩ trivial o) ?_
          clear hK K'
          simp only [Act.put, List.getElem_toArray, List.getElem_cons_succ, List.getElem_cons_zero, List.setIfInBounds_toArray, List.set_cons_zero, List.set_cons_succ]
          refine Rt.C_ready (rs := [16]) (by kernel_rfl) (by simp) ?_
          refine Rt.AllC.cons (i := 16) (o := _) rfl (by rfl) (fun K' hK => ?_) ?_
          · skip
            go_simp
            refine (HOR.out).mono ?_
            rintro e5 w5 ⟨rfl, hw5⟩
            subst hw5
            go_simp
            refine hK _ _ (fun o _ => Sc2.of ⟨HP.out.cell 0, HP.out.cell 1, HP.out.cell 2, HQ.out.cell 0, HQ.out.cell 1, HQ.out.cell 2⟩ trivial o) ?_
            clear hK K'
            simp only [Act.put, List.getElem_toArray, List.getElem_cons_succ, List.getElem_cons_zero, List.setIfInBounds_toArray, List.set_cons_zero, List.set_cons_succ]
            refine Rt.C_take (none) (i := 17) (oi := _) (v := ?_) rfl (by kernel_rfl) (by kernel_rfl) (by kernel_rfl) (by kernel_rfl) (fun _ _ _ h => h) (Sc2.other (by decide)) (Or.inl ⟨by rfl, ?_⟩) (fun o _ => Sc2.of ⟨HP.out.cell 0, HP.out.cell 1, HP.out.cell 2, HQ.out.cell 0, HQ.out.cell 1, HQ.out.cell 2⟩ trivial o) ?_
            rotate_left
            · intro w2 hSw
              obtain ⟨s0, s1, s2, s3, s4, s5⟩ := hSw
              go_simp
              try with_reducible rfl
            simp only [Act.put, List.getElem_toArray, List.getElem_cons_succ, List.getElem_cons_zero, List.setIfInBounds_toArray, List.set_cons_zero, List.set_cons_succ]
            refine Rt.C_done (by kernel_rfl) ?_ _
            refine NoPanic.normal ?_
            go_wp2_with fail
            go_ret
            exact ⟨by rw [HE.out]; rfl, HB.out⟩
          exact Rt.AllC.nil
        exact Rt.AllC.nil
      exact Rt.AllC.nil
    exact Rt.AllC.nil
  exact Rt.AllC.nil
end Pw
end Go.Proofs.YtgagophijmiceaaDoor

/- WALK: slices.MinFunc of patterns, by their order. -/
namespace Go.Proofs.YtgagophijmiceaaDoor
set_option linter.unusedSimpArgs false
set_option linter.unusedVariables false
open Go.RowKit
namespace Pw
open Tld Mem Bl Pn

/-- The first of the least patterns. -/
def mnK (WW HH : Nat → Nat) (ZZ : Nat → List Int) : Nat → Nat
  | 0 => 0
  | k + 1 => if ordP (WW (k + 1)) (HH (k + 1)) (ZZ (k + 1)) (WW (mnK WW HH ZZ k)) (HH (mnK WW HH ZZ k)) (ZZ (mnK WW HH ZZ k)) < 0 then k + 1 else mnK WW HH ZZ k
theorem mnK_le (WW HH : Nat → Nat) (ZZ : Nat → List Int) : ∀ k, mnK WW HH ZZ k ≤ k
  | 0 => Nat.le_refl _
  | k + 1 => by
    unfold mnK
    split
    · exact Nat.le_refl _
    · exact Nat.le_succ_of_le (mnK_le WW HH ZZ k)
theorem canK_mn (W H : Nat) (f : Nat → Nat → Nat) : ∀ k, canK W H f k = mnK (fun i => qW W H (i % 4)) (fun i => qH W H (i % 4)) (fun i => flat (qW W H (i % 4)) (qH W H (i % 4)) (tF W H f i)) k
  | 0 => rfl
  | k + 1 => by
    unfold canK mnK
    rw [canK_mn W H f k]
theorem range_keep {w w' : World} {g o : Nat} {cs : List Value} (h : w.rangeAt g o cs) (hg : g < w.heap.size) (hb : Below w.heap.size w w') : w'.rangeAt g o cs := fun j v hv => (hb.cell (p := ⟨g, o + j, none⟩) hg).trans (h j v hv)

set_option maxHeartbeats 16000000 in
set_option maxRecDepth 1000000 in
theorem min_any (WW HH : Nat → Nat) (ZZ : Nat → List Int) (A : Nat → Option Addr) (C : Nat → Nat) (n g cap : Nat) (w : World) (hn : n ≤ 1000000) (hg : g < w.heap.size) (hR : ∀ i, i < 8 → w.rangeAt g (3 * i) (boxP (WW i : Nat) (HH i : Nat) (A i) n (C i))) (hZ : ∀ i, i < 8 → Ints.Is w (A i) n (ZZ i)) :
    Calls Tryd.prog 49 #[.slice (some ⟨g, 0, none⟩) 8 cap, .func (.func 50) #[] #[]] w fun e w' => e = .returned (pat (WW (mnK WW HH ZZ 7) : Nat) (HH (mnK WW HH ZZ 7) : Nat) (A (mnK WW HH ZZ 7)) n (C (mnK WW HH ZZ 7))) ∧ Below w.heap.size w w' := by
  have HRA := Lib.hid (fun w2 (hb : Below w.heap.size w w2) i (hi : i < 8) => range_keep (hR i hi) hg hb)
  have HO := Lib.hid (fun w2 (hb : Below w.heap.size w w2) i m (hi : i < 8) (hm : m < 8) => order_any (WW i) (HH i) (A i) n (C i) (ZZ i) (WW m) (HH m) (A m) n (C m) (ZZ m) w2 ((hZ i hi).keep hb) ((hZ m hm).keep hb) hn hn)
  have HGL := Lib.hid hg
  clear hn hR hZ hg
  go_enter Tryd.func49, Tryd.ntmps49
  go_upto_region 3 with fail
  have HRB : Hid (Row (w.alloc (.cells #[.int .i64 0, .int .i64 0, .slice none 0 0] 35)) w.heap.size 35 noPat) := Lib.hid (row_alloc w _ noPat)
  have HB : Hid (Below w.heap.size w (w.alloc (.cells #[.int .i64 0, .int .i64 0, .slice none 0 0] 35))) := Lib.hid ((Below.refl _ _).alloc (Nat.le_refl _) _)
  generalize w.alloc (.cells #[.int .i64 0, .int .i64 0, .slice none 0 0] 35) = w1 at *
  obtain ⟨rb, hrb⟩ : ∃ rb, rb = w.heap.size := ⟨_, rfl⟩
  rw [← hrb] at HRB ⊢
  have l0 := HRA.out w1 HB.out 0 (by decide)
  rw [Nat.mul_zero] at l0
  have hnew : Row (w1.alloc (.cells #[.int .i64 0, .int .i64 0, .slice none 0 0] 35)) w1.heap.size 35 noPat := row_alloc w1 _ noPat
  have HRE := Lib.hid hrb
  clear hrb
  go_upto_region 4 with (first | (refine wpList_load_mid rfl 35 _ rfl g 0 rfl _ _ l0 Tryd.underlying35 rfl infoPat ?_) | (refine Ops.wpList_store_arr rfl 35 _ _ rfl w1.heap.size rfl 35 noPat _ rfl hnew rfl infoPat (boxP_one _ _ _ _ _) ?_; intro w2 hq hon))
  clear l0 hnew
  have hl := HRB.out.lt
  have hb2 : Below w1.heap.size w1 w2 := ((Below.refl _ _).alloc (Nat.le_refl _) _).trans (hon.below (Nat.le_refl _))
  clear hon
  have HRB := Lib.hid (HRB.out.keep hb2 HRB.out.lt)
  have hsz := HB.out.size
  have HB := Lib.hid (HB.out.trans (hb2.mono HB.out.size))
  have HMR := Lib.hid hq
  obtain ⟨mb, hmb⟩ : ∃ mb, mb = w1.heap.size := ⟨_, rfl⟩
  rw [← hmb] at HMR ⊢
  have HNE : Hid (rb ≠ mb ∧ w.heap.size ≤ mb) := Lib.hid (by omega)
  clear hmb hb2 hq hsz hl
  go_wp2_with fail
  go_loopw [6] (fun v wr => ∃ j : Nat, j < 8 ∧ v = .int .i64 ((j + 1 : Nat) : Int) ∧ Row wr mb 35 (boxP (WW (mnK WW HH ZZ j) : Nat) (HH (mnK WW HH ZZ j) : Nat) (A (mnK WW HH ZZ j)) n (C (mnK WW HH ZZ j))) ∧ Row wr rb 35 noPat ∧ Below w.heap.size w wr) (fun v _ => 100 - (RowKit.intOf v).toNat)
  case atStart => exact ⟨0, by decide, rfl, HMR.out, HRB.out, HB.out⟩
  case round =>
    clear HMR HRB HB
    obtain ⟨j, hj, rfl, hmr, hrb, hb⟩ := hrel
    have HMR := Lib.hid hmr
    have HRB := Lib.hid hrb
    have HB := Lib.hid hb
    clear hmr hrb hb
    obtain ⟨i, hi⟩ : ∃ i, i = j + 1 := ⟨_, rfl⟩
    have HMK : Hid (mnK WW HH ZZ i = if ordP (WW i) (HH i) (ZZ i) (WW (mnK WW HH ZZ j)) (HH (mnK WW HH ZZ j)) (ZZ (mnK WW HH ZZ j)) < 0 then i else mnK WW HH ZZ j) := Lib.hid (by rw [hi]; rfl)
    have hml := mnK_le WW HH ZZ j
    obtain ⟨m, hm⟩ : ∃ m, m = mnK WW HH ZZ j := ⟨_, rfl⟩
    rw [← hm] at HMK HMR hml
    rw [← hi]
    by_cases hi8 : i < 8
    · have hi8i : (i : Int) < 8 := by omega
      have hm8 : m < 8 := by omega
      have HI8 := Lib.hid hi8
      have HCO := Lib.hid (fun w2 (hb : Below w.heap.size w w2) => HO.out w2 hb i m hi8 hm8)
      obtain ⟨ov, hov⟩ : ∃ ov, ov = ordP (WW i) (HH i) (ZZ i) (WW m) (HH m) (ZZ m) := ⟨_, rfl⟩
      rw [← hov] at HCO HMK
      have E1 : Hid ((i : Int) + 1 = ((i + 1 : Nat) : Int)) := Lib.hid (by push_cast; rfl)
      have hdr : Below wr.heap.size wr wr.drew := (Below.refl _ _).drew
      have HMR := Lib.hid (HMR.out.keep hdr HMR.out.lt)
      have HRB := Lib.hid (HRB.out.keep hdr HRB.out.lt)
      have HBd := Lib.hid (HB.out.trans (hdr.mono HB.out.size))
      have HRd := Lib.hid (HRA.out _ HBd.out i hi8)
      have HMd := Lib.hid (row_range HMR.out)
      clear hdr hov hm hi hml hm8 hj hi8
      go_upto_region 7 with fail
      refine wp_region_noPanic ?_
      refine Rt.region_Cn (Sc2 (fun w2 => w2.rangeAt g (3 * i) (boxP (WW i : Nat) (HH i : Nat) (A i) n (C i)) ∧ w2.rangeAt mb 0 (boxP (WW m : Nat) (HH m : Nat) (A m) n (C m))) (fun w2 => True) 999) 8 #[false, false, false, false, false, false, false, false] (by kernel_rfl) (by kernel_rfl) (by kernel_rfl) ?_
      have hS1 : ∀ o, Sc2 (fun w2 => w2.rangeAt g (3 * i) (boxP (WW i : Nat) (HH i : Nat) (A i) n (C i)) ∧ w2.rangeAt mb 0 (boxP (WW m : Nat) (HH m : Nat) (A m) n (C m))) (fun w2 => True) 999 o wr.drew := Sc2.of ⟨HRd.out, HMd.out⟩ trivial
      refine Rt.C_take (none) (i := 0) (oi := _) (v := ?_) rfl (by kernel_rfl) (by kernel_rfl) (by kernel_rfl) (by kernel_rfl) (fun _ _ _ h => h) (Sc2.other (by decide)) (Or.inl ⟨by rfl, ?_⟩) (fun o' _ => hS1 o') ?_
      rotate_left
      · intro w2 hSw
        obtain ⟨s0, s1⟩ := hSw
        go_simp
        try with_reducible rfl
      simp only [Act.put, List.getElem_toArray, List.getElem_cons_succ, List.getElem_cons_zero, List.setIfInBounds_toArray, List.set_cons_zero, List.set_cons_succ]
      refine Rt.C_take (none) (i := 1) (oi := _) (v := ?_) rfl (by kernel_rfl) (by kernel_rfl) (by kernel_rfl) (by kernel_rfl) (fun _ _ _ h => h) (Sc2.other (by decide)) (Or.inl ⟨by rfl, ?_⟩) (fun o' _ => hS1 o') ?_
      rotate_left
      · intro w2 hSw
        obtain ⟨s0, s1⟩ := hSw
        go_simp
        try with_reducible rfl
      simp only [Act.put, List.getElem_toArray, List.getElem_cons_succ, List.getElem_cons_zero, List.setIfInBounds_toArray, List.set_cons_zero, List.set_cons_succ]
      refine Rt.C_take (none) (i := 2) (oi := _) (v := ?_) rfl (by kernel_rfl) (by kernel_rfl) (by kernel_rfl) (by kernel_rfl) (fun _ _ _ h => h) (Sc2.other (by decide)) (Or.inl ⟨by rfl, ?_⟩) (fun o' _ => hS1 o') ?_
      rotate_left
      · intro w2 hSw
        obtain ⟨s0, s1⟩ := hSw
        go_simp
        try with_reducible rfl
      simp only [Act.put, List.getElem_toArray, List.getElem_cons_succ, List.getElem_cons_zero, List.setIfInBounds_toArray, List.set_cons_zero, List.set_cons_succ]
      refine Rt.C_take (none) (i := 3) (oi := _) (v := ?_) rfl (by kernel_rfl) (by kernel_rfl) (by kernel_rfl) (by kernel_rfl) (fun _ _ _ h => h) (Sc2.other (by decide)) (Or.inl ⟨by rfl, ?_⟩) (fun o' _ => hS1 o') ?_
      rotate_left
      · intro w2 hSw
        obtain ⟨s0, s1⟩ := hSw
        go_simp
        try with_reducible rfl
      simp only [Act.put, List.getElem_toArray, List.getElem_cons_succ, List.getElem_cons_zero, List.setIfInBounds_toArray, List.set_cons_zero, List.set_cons_succ]
      refine Rt.C_take (none) (i := 4) (oi := _) (v := .agg (boxP (WW i : Nat) (HH i : Nat) (A i) n (C i)).toArray) rfl (by kernel_rfl) (by kernel_rfl) (by kernel_rfl) (by kernel_rfl) (fun _ _ _ h => h) (Sc2.other (by decide)) (yieldsIf_load_mid (by rfl) 35 _ rfl g (3 * i) (by first | rfl | (go_simp; done)) _ _ (fun w2 hSw => hSw.1) Tryd.underlying35 rfl infoPat) (fun o' _ => hS1 o') ?_
      simp only [Act.put, List.getElem_toArray, List.getElem_cons_succ, List.getElem_cons_zero, List.setIfInBounds_toArray, List.set_cons_zero, List.set_cons_succ]
      refine Rt.C_take (none) (i := 5) (oi := _) (v := .agg (boxP (WW m : Nat) (HH m : Nat) (A m) n (C m)).toArray) rfl (by kernel_rfl) (by kernel_rfl) (by kernel_rfl) (by kernel_rfl) (fun _ _ _ h => h) (Sc2.other (by decide)) (yieldsIf_load_mid (by rfl) 35 _ rfl mb (0) (by first | rfl | (go_simp; done)) _ _ (fun w2 hSw => hSw.2) Tryd.underlying35 rfl infoPat) (fun o' _ => hS1 o') ?_
      simp only [Act.put, List.getElem_toArray, List.getElem_cons_succ, List.getElem_cons_zero, List.setIfInBounds_toArray, List.set_cons_zero, List.set_cons_succ]
      clear hS1
      refine Rt.C_ready (rs := [6]) (by kernel_rfl) (by simp) ?_
      refine Rt.AllC.cons (i := 6) (o := _) rfl (by rfl) (fun K' hK => ?_) ?_
      · skip
        go_simp
        refine (HCO.out _ HBd.out).mono ?_
        rintro e5 w5 ⟨rfl, hb5⟩
        have HRd := Lib.hid (range_keep HRd.out (Nat.lt_of_lt_of_le HGL.out HBd.out.size) hb5)
        have HMR := Lib.hid (HMR.out.keep hb5 HMR.out.lt)
        have HRB := Lib.hid (HRB.out.keep hb5 HRB.out.lt)
        have HMd := Lib.hid (row_range HMR.out)
        have HB := Lib.hid (HBd.out.trans (hb5.mono HBd.out.size))
        clear hb5 HBd
        go_simp
        refine hK _ _ (fun o _ => Sc2.of ⟨HRd.out, HMd.out⟩ trivial o) ?_
        clear hK K'
        simp only [Act.put, List.getElem_toArray, List.getElem_cons_succ, List.getElem_cons_zero, List.setIfInBounds_toArray, List.set_cons_zero, List.set_cons_succ]
        refine Rt.C_take (none) (i := 7) (oi := _) (v := ?_) rfl (by kernel_rfl) (by kernel_rfl) (by kernel_rfl) (by kernel_rfl) (fun _ _ _ h => h) (Sc2.other (by decide)) (Or.inl ⟨by rfl, ?_⟩) (fun o _ => Sc2.of ⟨HRd.out, HMd.out⟩ trivial o) ?_
        rotate_left
        · intro w2 hSw
          obtain ⟨s0, s1⟩ := hSw
          go_simp
          try with_reducible rfl
        simp only [Act.put, List.getElem_toArray, List.getElem_cons_succ, List.getElem_cons_zero, List.setIfInBounds_toArray, List.set_cons_zero, List.set_cons_succ]
        refine Rt.C_done (by kernel_rfl) ?_ _
        refine NoPanic.normal ?_
        by_cases hlt : ov < 0
        · have HMK2 : Hid (mnK WW HH ZZ i = i) := Lib.hid (by rw [HMK.out, if_pos hlt])
          have l4 := HRd.out
          go_wp2_with (first | (refine wpList_load_mid rfl 35 _ rfl g (3 * i) (by first | rfl | (go_simp; done)) _ _ l4 Tryd.underlying35 rfl infoPat ?_) | (refine Ops.wpList_store_arr rfl 35 _ _ rfl mb rfl 35 _ _ rfl HMR.out rfl infoPat (boxP_one _ _ _ _ _) ?_; intro w7 hrow7 hon7))
          have HRB := Lib.hid (HRB.out.other hon7 HNE.out.1)
          have HB := Lib.hid (HB.out.trans (hon7.below HNE.out.2))
          have HMR := Lib.hid hrow7
          clear l4 hrow7 hon7
          go_wp2_with fail
          go_roundw
          case rel => exact ⟨i, HI8.out, congrArg (Value.int .i64) E1.out, by rw [HMK2.out]; exact HMR.out, HRB.out, HB.out⟩
          case measure => exact meas E1.out (by have := HI8.out; omega)
        · have HMK2 : Hid (mnK WW HH ZZ i = m) := Lib.hid (by rw [HMK.out, if_neg hlt])
          go_wp2_with fail
          go_roundw
          case rel => exact ⟨i, HI8.out, congrArg (Value.int .i64) E1.out, by rw [HMK2.out]; exact HMR.out, HRB.out, HB.out⟩
          case measure => exact meas E1.out (by have := HI8.out; omega)
      exact Rt.AllC.nil
    · have hi8i : ¬ (i : Int) < 8 := by omega
      obtain rfl : j = 7 := by omega
      have HI := Lib.hid hi
      have HM := Lib.hid hm
      have l5 := row_range HMR.out
      clear hi hm hml hi8 hj
      go_wp2_with (first | (refine wpList_load_mid rfl 35 _ rfl mb 0 rfl _ _ l5 Tryd.underlying35 rfl infoPat ?_) | (refine Ops.wpList_store_arr rfl 35 _ _ rfl rb rfl 35 _ _ rfl HRB.out rfl infoPat (boxP_one _ _ _ _ _) ?_; intro w5 hrow5 hon5))
      refine bodyPost_ret (results_pat1 (t := 4) rfl _ _ hrow5 rfl rfl) rfl ⟨by rw [HM.out]; rfl, HB.out.trans (hon5.below (by rw [HRE.out]; exact Nat.le_refl _))⟩
end Pw
end Go.Proofs.YtgagophijmiceaaDoor
