/- WALK: the document's edenref3.Made. -/
import Derived.Test.YthipeeagpllfeaaDoorPpRm
namespace Go.Proofs.YthipeeagpllfeaaDoor
set_option linter.unusedSimpArgs false
set_option linter.unusedVariables false
open Go.RowKit
namespace Pn
open Tld Mem Bl

/-- A number out of its cells. -/
def nb (g : Nat → Nat) : Nat → Nat
  | 0 => 0
  | k + 1 => nb g k * 2 + g k
theorem nb_lt {g : Nat → Nat} (hg : ∀ j, g j < 2) : ∀ m, nb g m < 2 ^ m
  | 0 => Nat.one_pos
  | k + 1 => by
    have h := nb_lt hg k
    have h2 := hg k
    show nb g k * 2 + g k < 2 ^ (k + 1)
    rw [Nat.pow_succ]
    omega
theorem nb_bt {g : Nat → Nat} (hg : ∀ j, g j < 2) : ∀ m j, j < m → g j = bt (nb g m) (m - 1 - j)
  | 0, j, h => absurd h (Nat.not_lt_zero _)
  | k + 1, j, h => by
    show g j = bt (nb g k * 2 + g k) (k + 1 - 1 - j)
    by_cases e : j = k
    · subst e
      rw [show j + 1 - 1 - j = 0 by omega, bt_low _ _ (hg j)]
    · rw [show k + 1 - 1 - j = (k - 1 - j) + 1 by omega, bt_up _ _ _ (hg k)]
      exact nb_bt hg k j (by omega)
/-- What becomes of the cell that the newest one makes right. -/
theorem mid_ck2 {B S w t P : Nat} {g : Nat → Nat} (hw : 0 < w) (hx : 2 ≤ t % w) (hy : 2 ≤ t / w) (hg : ∀ j, j ≤ t → g j = bt P (t - j)) : midV B S g w (t % w - 2) (t / w - 2) = bec B S (bt P (w + 1)) (nineB w P - bt P (w + 1)) := by
  obtain ⟨x, hx'⟩ : ∃ x, t % w = x + 2 := ⟨t % w - 2, by omega⟩
  obtain ⟨y, hy'⟩ : ∃ y, t / w = y + 2 := ⟨t / w - 2, by omega⟩
  have ht : t = (y + 2) * w + (x + 2) := by
    have := Nat.div_add_mod' t w
    rw [hx', hy'] at this
    exact this.symm
  have h2 : (y + 2) * w = y * w + w + w := by rw [Nat.add_mul]; omega
  have h1 : (y + 1) * w = y * w + w := by rw [Nat.add_mul]; omega
  rw [hx', hy', Nat.add_sub_cancel, Nat.add_sub_cancel]
  have G : ∀ j e, j + e = t → g j = bt P e := fun j e h => by rw [hg j (by omega)]; congr 1; omega
  have c0 : g (y * w + x) = bt P (2 * w + 2) := G _ _ (by rw [ht, h2]; omega)
  have c1 : g (y * w + x + 1) = bt P (2 * w + 1) := G _ _ (by rw [ht, h2]; omega)
  have c2 : g (y * w + x + 2) = bt P (2 * w) := G _ _ (by rw [ht, h2]; omega)
  have c3 : g ((y + 1) * w + x) = bt P (w + 2) := G _ _ (by rw [ht, h2, h1]; omega)
  have c4 : g ((y + 1) * w + x + 1) = bt P (w + 1) := G _ _ (by rw [ht, h2, h1]; omega)
  have c5 : g ((y + 1) * w + x + 2) = bt P w := G _ _ (by rw [ht, h2, h1]; omega)
  have c6 : g ((y + 2) * w + x) = bt P 2 := G _ _ (by rw [ht]; omega)
  have c7 : g ((y + 2) * w + x + 1) = bt P 1 := G _ _ (by rw [ht]; omega)
  have c8 : g ((y + 2) * w + x + 2) = bt P 0 := G _ _ (by rw [ht]; omega)
  have hs : mS g w x y 9 = 0 + g (y * w + x) + g (y * w + x + 1) + g (y * w + x + 2) + g ((y + 1) * w + x) + 0 + g ((y + 1) * w + x + 2) + g ((y + 2) * w + x) + g ((y + 2) * w + x + 1) + g ((y + 2) * w + x + 2) := rfl
  unfold midV
  rw [hs, c0, c1, c2, c3, c4, c5, c6, c7, c8]
  congr 1
  unfold nineB
  omega
/-- All cells make the pattern in their middle. -/
def MadeAll (B S : Nat) (g : Nat → Nat) (wd : Nat) (f : Nat → Nat → Nat) (W H : Nat) : Prop := ∀ x y, x < W → y < H → midV B S g wd x y = f x y
/-- A number makes the pattern in its middle, if its cells do. -/
theorem makes_mid {B S W H N m : Nat} {p : Nat → Nat → Nat} {g : Nat → Nat} (hm : m = (W + 2) * (H + 2)) (hg : ∀ j, j < m → g j = bt N (m - 1 - j)) : MakesN B S p W H N ↔ MadeAll B S g (W + 2) p W H := by
  have key : ∀ x y, x < W → y < H → (ckP B S p (W + 2) ((y + 2) * (W + 2) + x + 2) (N / 2 ^ ((W + 2) * (H + 2) - 1 - ((y + 2) * (W + 2) + x + 2))) ↔ midV B S g (W + 2) x y = p x y) := by
    intro x y hx hy
    obtain ⟨t, ht⟩ : ∃ t, t = (y + 2) * (W + 2) + x + 2 := ⟨_, rfl⟩
    have e1 : t % (W + 2) = x + 2 := by rw [ht]; exact (place (w := W + 2) (x := x + 2) (y := y + 2) (by omega)).1
    have e2 : t / (W + 2) = y + 2 := by rw [ht]; exact (place (w := W + 2) (x := x + 2) (y := y + 2) (by omega)).2
    have htm : t < m := by
      rw [ht, hm]
      have h1 := Nat.mul_le_mul_right (W + 2) (show y + 2 + 1 ≤ H + 2 by omega)
      rw [Nat.add_mul, Nat.one_mul] at h1
      rw [Nat.mul_comm (W + 2) (H + 2)]
      omega
    rw [← ht, ← hm]
    have hmid := mid_ck2 (B := B) (S := S) (w := W + 2) (t := t) (P := N / 2 ^ (m - 1 - t)) (g := g) (by omega) (by omega) (by omega) (fun j hj => by
      rw [hg j (by omega), bt_div]
      congr 1
      omega)
    unfold ckP
    rw [e1, e2] at hmid ⊢
    rw [show x + 2 - 2 = x by omega, show y + 2 - 2 = y by omega] at hmid ⊢
    rw [hmid]
    exact ⟨fun k => k (by omega) (by omega), fun k _ _ => k⟩
  constructor
  · intro h x y hx hy
    exact (key x y hx hy).1 (h x y hx hy)
  · intro h x y hx hy
    exact (key x y hx hy).2 (h x y hx hy)
theorem md_idx {W H n x y : Nat} (hx : x < W) (hy : y < H) (hW : W ≤ 5) (hH : H ≤ 5) (hn : n = W * H) : ∃ p1 i : Nat, i < n ∧ i = y * W + x ∧ wrap64 ((y : Int) * (W : Int)) = (p1 : Int) ∧ wrap64 ((p1 : Int) + (x : Int)) = (i : Int) := by
  have h4 := at_lt hx hy
  have h5 : W * H ≤ 5 * 5 := Nat.mul_le_mul hW hH
  exact ⟨y * W, _, by rw [hn]; exact h4, rfl, wr_nat (by push_cast; rfl) (by omega), wr_nat (by push_cast; rfl) (by omega)⟩
theorem ne_two2 (x y : Nat) : (((x : Int) != (y : Int)) = false → x = y) ∧ (((x : Int) != (y : Int)) = true → ¬ x = y) := by
  constructor
  · intro h
    rw [bne_eq_false_iff_eq] at h
    exact Int.ofNat.inj h
  · intro h e
    rw [bne_iff_ne] at h
    exact h (by rw [e])

set_option maxHeartbeats 16000000 in
set_option maxRecDepth 1000000 in
theorem made_ok (K st ra : Int) (B S : Nat) (ta : Option Addr) (tn tc : Nat) (tu : ByteArray) (W H : Nat) (a : Option Addr) (n c : Nat) (f : Nat → Nat → Nat) (wd h2 m : Nat) (qa : Option Addr) (qc : Nat) (g : Nat → Nat) (w : World) (hBS : B < 512) (hSS : S < 512) (hwd : wd = W + 2) (hh2 : h2 = H + 2) (hm : m = wd * h2) (hZ : Ints.Is w a n (flat W H f)) (hn : n = W * H) (hW : W ≤ 5) (hH : H ≤ 5) (hQ : Ints.Is w qa m (lstN m g)) (hg : ∀ j, g j < 2) :
    Calls Tryd.prog 11 #[.agg #[.int .i64 K, .int .i64 B, .int .i64 S, .int .i64 st, .int .i64 ra, .slice ta tn tc, .string tu], .agg #[.int .i64 (wd : Nat), .int .i64 (h2 : Nat), .slice qa m qc], .agg #[.int .i64 W, .int .i64 H, .slice a n c]] w fun e w' => ((e = .returned (.bool true) ∧ MadeAll B S g wd f W H) ∨ (e = .returned (.bool false) ∧ ¬ MadeAll B S g wd f W H)) ∧ Below w.heap.size w w' := by
  have hm49 : wd * h2 ≤ 7 * 7 := Nat.mul_le_mul (by omega) (by omega)
  have HMI := Lib.hid (fun (x y : Nat) w2 (hb : Below w.heap.size w w2) (hx : x < W) (hy : y < H) => middle_any K st ra B S ta tn tc tu wd h2 qa m qc g x y w2 hBS hSS (hQ.keep hb) hg (by
    have h1 := Nat.mul_le_mul_right wd (show y + 2 + 1 ≤ h2 by omega)
    rw [Nat.add_mul, Nat.one_mul] at h1
    rw [hm, Nat.mul_comm wd h2]
    omega) (by omega) (by omega))
  have aW : wrap64 ((W : Int) + 2) = (wd : Int) := wr_nat (by omega) (by omega)
  have aH : wrap64 ((H : Int) + 2) = (h2 : Int) := by clear aW; exact wr_nat (by omega) (by omega)
  have aM : wrap64 ((wd : Int) * (h2 : Int)) = (m : Int) := by clear aW aH; exact wr_nat (by rw [hm]; push_cast; rfl) (by omega)
  have aW' := wr_same aW
  have aH' := wr_same aH
  have aM' := wr_same aM
  have HZ := Lib.hid (fun w2 (h : Below w.heap.size w w2) => hZ.keep h)
  have HNN := Lib.hid hn
  have HW5 := Lib.hid hW
  have HH5 := Lib.hid hH
  clear hBS hSS hwd hh2 hm hZ hn hW hH hQ hg hm49
  go_enter Tryd.func11, Tryd.ntmps11
  go_upto_region 1 with fail
  obtain ⟨hr1, hr2, hr3, hb2⟩ := three_new w 24 26 26 (rulP K B S st ra ta tn tc tu) (boxP (wd : Nat) (h2 : Nat) qa m qc) (boxP W H a n c)
  have HU : Hid (Row (((w.alloc (.cells #[.int .i64 K, .int .i64 B, .int .i64 S, .int .i64 st, .int .i64 ra, .slice ta tn tc, .string tu] 24)).alloc (.cells #[.int .i64 (wd : Nat), .int .i64 (h2 : Nat), .slice qa m qc] 26)).alloc (.cells #[.int .i64 W, .int .i64 H, .slice a n c] 26)) w.heap.size 24 (rulP K B S st ra ta tn tc tu)) := hr1
  have HQ : Hid (Row (((w.alloc (.cells #[.int .i64 K, .int .i64 B, .int .i64 S, .int .i64 st, .int .i64 ra, .slice ta tn tc, .string tu] 24)).alloc (.cells #[.int .i64 (wd : Nat), .int .i64 (h2 : Nat), .slice qa m qc] 26)).alloc (.cells #[.int .i64 W, .int .i64 H, .slice a n c] 26)) (w.heap.size + 1) 26 (boxP (wd : Nat) (h2 : Nat) qa m qc)) := hr2
  have HP : Hid (Row (((w.alloc (.cells #[.int .i64 K, .int .i64 B, .int .i64 S, .int .i64 st, .int .i64 ra, .slice ta tn tc, .string tu] 24)).alloc (.cells #[.int .i64 (wd : Nat), .int .i64 (h2 : Nat), .slice qa m qc] 26)).alloc (.cells #[.int .i64 W, .int .i64 H, .slice a n c] 26)) (w.heap.size + 1 + 1) 26 (boxP W H a n c)) := hr3
  have HB : Hid (Below w.heap.size w (((w.alloc (.cells #[.int .i64 K, .int .i64 B, .int .i64 S, .int .i64 st, .int .i64 ra, .slice ta tn tc, .string tu] 24)).alloc (.cells #[.int .i64 (wd : Nat), .int .i64 (h2 : Nat), .slice qa m qc] 26)).alloc (.cells #[.int .i64 W, .int .i64 H, .slice a n c] 26))) := hb2
  clear hr1 hr2 hr3 hb2
  generalize ((w.alloc (.cells #[.int .i64 K, .int .i64 B, .int .i64 S, .int .i64 st, .int .i64 ra, .slice ta tn tc, .string tu] 24)).alloc (.cells #[.int .i64 (wd : Nat), .int .i64 (h2 : Nat), .slice qa m qc] 26)).alloc (.cells #[.int .i64 W, .int .i64 H, .slice a n c] 26) = w1 at *
  obtain ⟨ub, hub⟩ : ∃ ub, ub = w.heap.size := ⟨_, rfl⟩
  rw [← hub] at HU HQ HP ⊢
  obtain ⟨qb, hqb⟩ : ∃ qb, qb = ub + 1 := ⟨_, rfl⟩
  rw [← hqb] at HQ HP ⊢
  obtain ⟨pb, hpb⟩ : ∃ pb, pb = qb + 1 := ⟨_, rfl⟩
  rw [← hpb] at HP ⊢
  clear hub hqb hpb
  have q0 := HQ.out.cell 0
  have q1 := HQ.out.cell 1
  have q2 := HQ.out.cell 2
  have p0 := HP.out.cell 0
  have p1 := HP.out.cell 1
  unfold boxP at q0 q1 q2 p0 p1
  dsimp only [List.getElem?_cons_succ, List.getElem?_cons_zero] at q0 q1 q2 p0 p1
  go_wp2_with fail
  clear q0 q1 q2 p0 p1 aW aH aM aW' aH' aM'
  go_loopw [7] (fun u wr => ∃ y : Nat, y ≤ H ∧ u = .int .i64 (y : Nat) ∧ (∀ x y', x < W → y' < y → midV B S g wd x y' = f x y') ∧ Row wr ub 24 (rulP K B S st ra ta tn tc tu) ∧ Row wr qb 26 (boxP (wd : Nat) (h2 : Nat) qa m qc) ∧ Row wr pb 26 (boxP W H a n c) ∧ Below w.heap.size w wr) (fun u _ => H - (RowKit.intOf u).toNat)
  case atStart => exact ⟨0, Nat.zero_le _, rfl, fun x y' _ h => absurd h (Nat.not_lt_zero _), HU.out, HQ.out, HP.out, HB.out⟩
  case round =>
    clear HU HQ HP HB
    obtain ⟨y, hy, rfl, hcy, hU, hQ, hP, hB⟩ := hrel
    have HCY := Lib.hid hcy
    clear hcy
    have HU := Lib.hid hU
    have HQ := Lib.hid hQ
    have HP := Lib.hid hP
    have HB := Lib.hid hB
    clear hU hQ hP hB
    have p0 := HP.out.cell 0
    have p1 := HP.out.cell 1
    unfold boxP at p0 p1
    dsimp only [List.getElem?_cons_succ, List.getElem?_cons_zero] at p0 p1
    by_cases hyh : y < H
    · have hyi : (y : Int) < (H : Int) := by omega
      have HYH := Lib.hid hyh
      clear hyh hy
      go_wp2_with fail
      clear p0 p1 hyi
      go_loopw [8] (fun u wr => ∃ x : Nat, x ≤ W ∧ u = .int .i64 (x : Nat) ∧ (∀ x', x' < x → midV B S g wd x' y = f x' y) ∧ Row wr ub 24 (rulP K B S st ra ta tn tc tu) ∧ Row wr qb 26 (boxP (wd : Nat) (h2 : Nat) qa m qc) ∧ Row wr pb 26 (boxP W H a n c) ∧ Below w.heap.size w wr) (fun u _ => W - (RowKit.intOf u).toNat)
      case atStart => exact ⟨0, Nat.zero_le _, rfl, fun x' h => absurd h (Nat.not_lt_zero _), HU.out, HQ.out, HP.out, HB.out⟩
      case round =>
        clear HU HQ HP HB
        obtain ⟨x, hx, rfl, hcx, hU, hQ, hP, hB⟩ := hrel
        have HC := Lib.hid hcx
        clear hcx
        have HU := Lib.hid hU
        have HQ := Lib.hid hQ
        have HP := Lib.hid hP
        have HB := Lib.hid hB
        clear hU hQ hP hB
        have p0 := HP.out.cell 0
        unfold boxP at p0
        dsimp only [List.getElem?_cons_succ, List.getElem?_cons_zero] at p0
        by_cases hxw : x < W
        · have hxi : (x : Int) < (W : Int) := by omega
          have HXW := Lib.hid hxw
          have HXY : Hid (x < W ∧ y < H) := Lib.hid ⟨hxw, HYH.out⟩
          obtain ⟨p1, i, hin, hi, a1, a2⟩ := md_idx hxw HYH.out HW5.out HH5.out HNN.out
          obtain ⟨ab, ao, rfl, hab1, cg⟩ := (HZ.out wr HB.out).cells i hin
          dsimp only at cg hab1
          rw [hi, flat_at hxw HYH.out, ← hi] at cg
          obtain ⟨v, hv⟩ : ∃ v, v = f x y := ⟨_, rfl⟩
          rw [← hv] at cg
          obtain ⟨mv, hmv⟩ : ∃ mv, mv = midV B S g wd x y := ⟨_, rfl⟩
          obtain ⟨q, hq⟩ : ∃ q, q = ((mv : Int) != (v : Int)) := ⟨_, rfl⟩
          have HQE := Lib.hid hq
          have HQV : Hid ((q = false → midV B S g wd x y = f x y) ∧ (q = true → ¬ midV B S g wd x y = f x y)) := Lib.hid (by
            rw [← hmv, ← hv, hq]
            exact ne_two2 mv v)
          have a1' := wr_same a1
          have a2' := wr_same a2
          have hin2 : (i : Int) < (n : Int) := Int.ofNat_lt.2 hin
          clear hi hin hv hq hxw hx
          go_upto_region 9 with fail
          clear p0 hxi
          have hdr : Below wr.heap.size wr wr.drew := (Below.refl _ _).drew
          have HUd := Lib.hid (HU.out.keep hdr HU.out.lt)
          have HQd := Lib.hid (HQ.out.keep hdr HQ.out.lt)
          have HPd := Lib.hid (HP.out.keep hdr HP.out.lt)
          have cgd := (hdr.cell (p := ⟨ab, ao + i, none⟩) hab1).trans cg
          refine wp_region_noPanic ?_
          refine Rt.region_Cn (Sc2 (fun w2 => w2.cell? ⟨ub, 0, none⟩ = some (.int .i64 K) ∧ w2.cell? ⟨ub, 1, none⟩ = some (.int .i64 B) ∧ w2.cell? ⟨ub, 2, none⟩ = some (.int .i64 S) ∧ w2.cell? ⟨ub, 3, none⟩ = some (.int .i64 st) ∧ w2.cell? ⟨ub, 4, none⟩ = some (.int .i64 ra) ∧ w2.cell? ⟨ub, 5, none⟩ = some (.slice ta tn tc) ∧ w2.cell? ⟨ub, 6, none⟩ = some (.string tu) ∧ w2.cell? ⟨qb, 0, none⟩ = some (.int .i64 (wd : Nat)) ∧ w2.cell? ⟨qb, 1, none⟩ = some (.int .i64 (h2 : Nat)) ∧ w2.cell? ⟨qb, 2, none⟩ = some (.slice qa m qc) ∧ w2.cell? ⟨pb, 0, none⟩ = some (.int .i64 W) ∧ w2.cell? ⟨pb, 2, none⟩ = some (.slice (some ⟨ab, ao, none⟩) n c) ∧ w2.cell? ⟨ab, ao + i, none⟩ = some (.int .i64 (v : Nat))) (fun w2 => True) 999) 16 #[false, false, false, false, false, false, false, false, false, false, false, false, false, false, false, false] (by kernel_rfl) (by kernel_rfl) (by kernel_rfl) ?_
          have hS1 : ∀ o, Sc2 (fun w2 => w2.cell? ⟨ub, 0, none⟩ = some (.int .i64 K) ∧ w2.cell? ⟨ub, 1, none⟩ = some (.int .i64 B) ∧ w2.cell? ⟨ub, 2, none⟩ = some (.int .i64 S) ∧ w2.cell? ⟨ub, 3, none⟩ = some (.int .i64 st) ∧ w2.cell? ⟨ub, 4, none⟩ = some (.int .i64 ra) ∧ w2.cell? ⟨ub, 5, none⟩ = some (.slice ta tn tc) ∧ w2.cell? ⟨ub, 6, none⟩ = some (.string tu) ∧ w2.cell? ⟨qb, 0, none⟩ = some (.int .i64 (wd : Nat)) ∧ w2.cell? ⟨qb, 1, none⟩ = some (.int .i64 (h2 : Nat)) ∧ w2.cell? ⟨qb, 2, none⟩ = some (.slice qa m qc) ∧ w2.cell? ⟨pb, 0, none⟩ = some (.int .i64 W) ∧ w2.cell? ⟨pb, 2, none⟩ = some (.slice (some ⟨ab, ao, none⟩) n c) ∧ w2.cell? ⟨ab, ao + i, none⟩ = some (.int .i64 (v : Nat))) (fun w2 => True) 999 o wr.drew := Sc2.of ⟨HUd.out.cell 0, HUd.out.cell 1, HUd.out.cell 2, HUd.out.cell 3, HUd.out.cell 4, HUd.out.cell 5, HUd.out.cell 6, HQd.out.cell 0, HQd.out.cell 1, HQd.out.cell 2, HPd.out.cell 0, HPd.out.cell 2, cgd⟩ trivial
          refine Rt.C_take (none) (i := 0) (oi := _) (v := ?_) rfl (by kernel_rfl) (by kernel_rfl) (by kernel_rfl) (by kernel_rfl) (fun _ _ _ h => h) (Sc2.other (by decide)) (Or.inl ⟨by rfl, ?_⟩) (fun o' _ => hS1 o') ?_
          rotate_left
          · intro w2 hSw
            obtain ⟨s0, s1, s2, s3, s4, s5, s6, s7, s8, s9, s10, s11, s12⟩ := hSw
            go_simp
            try with_reducible rfl
          simp only [Act.put, List.getElem_toArray, List.getElem_cons_succ, List.getElem_cons_zero, List.setIfInBounds_toArray, List.set_cons_zero, List.set_cons_succ]
          refine Rt.C_take (none) (i := 1) (oi := _) (v := ?_) rfl (by kernel_rfl) (by kernel_rfl) (by kernel_rfl) (by kernel_rfl) (fun _ _ _ h => h) (Sc2.other (by decide)) (Or.inl ⟨by rfl, ?_⟩) (fun o' _ => hS1 o') ?_
          rotate_left
          · intro w2 hSw
            obtain ⟨s0, s1, s2, s3, s4, s5, s6, s7, s8, s9, s10, s11, s12⟩ := hSw
            go_simp
            try with_reducible rfl
          simp only [Act.put, List.getElem_toArray, List.getElem_cons_succ, List.getElem_cons_zero, List.setIfInBounds_toArray, List.set_cons_zero, List.set_cons_succ]
          refine Rt.C_take (none) (i := 2) (oi := _) (v := ?_) rfl (by kernel_rfl) (by kernel_rfl) (by kernel_rfl) (by kernel_rfl) (fun _ _ _ h => h) (Sc2.other (by decide)) (Or.inl ⟨by rfl, ?_⟩) (fun o' _ => hS1 o') ?_
          rotate_left
          · intro w2 hSw
            obtain ⟨s0, s1, s2, s3, s4, s5, s6, s7, s8, s9, s10, s11, s12⟩ := hSw
            go_simp
            try with_reducible rfl
          simp only [Act.put, List.getElem_toArray, List.getElem_cons_succ, List.getElem_cons_zero, List.setIfInBounds_toArray, List.set_cons_zero, List.set_cons_succ]
          refine Rt.C_take (none) (i := 3) (oi := _) (v := ?_) rfl (by kernel_rfl) (by kernel_rfl) (by kernel_rfl) (by kernel_rfl) (fun _ _ _ h => h) (Sc2.other (by decide)) (Or.inl ⟨by rfl, ?_⟩) (fun o' _ => hS1 o') ?_
          rotate_left
          · intro w2 hSw
            obtain ⟨s0, s1, s2, s3, s4, s5, s6, s7, s8, s9, s10, s11, s12⟩ := hSw
            go_simp
            try with_reducible rfl
          simp only [Act.put, List.getElem_toArray, List.getElem_cons_succ, List.getElem_cons_zero, List.setIfInBounds_toArray, List.set_cons_zero, List.set_cons_succ]
          refine Rt.C_take (none) (i := 5) (oi := _) (v := ?_) rfl (by kernel_rfl) (by kernel_rfl) (by kernel_rfl) (by kernel_rfl) (fun _ _ _ h => h) (Sc2.other (by decide)) (Or.inl ⟨by rfl, ?_⟩) (fun o' _ => hS1 o') ?_
          rotate_left
          · intro w2 hSw
            obtain ⟨s0, s1, s2, s3, s4, s5, s6, s7, s8, s9, s10, s11, s12⟩ := hSw
            go_simp
            try with_reducible rfl
          simp only [Act.put, List.getElem_toArray, List.getElem_cons_succ, List.getElem_cons_zero, List.setIfInBounds_toArray, List.set_cons_zero, List.set_cons_succ]
          refine Rt.C_take (none) (i := 6) (oi := _) (v := ?_) rfl (by kernel_rfl) (by kernel_rfl) (by kernel_rfl) (by kernel_rfl) (fun _ _ _ h => h) (Sc2.other (by decide)) (Or.inl ⟨by rfl, ?_⟩) (fun o' _ => hS1 o') ?_
          rotate_left
          · intro w2 hSw
            obtain ⟨s0, s1, s2, s3, s4, s5, s6, s7, s8, s9, s10, s11, s12⟩ := hSw
            go_simp
            try with_reducible rfl
          simp only [Act.put, List.getElem_toArray, List.getElem_cons_succ, List.getElem_cons_zero, List.setIfInBounds_toArray, List.set_cons_zero, List.set_cons_succ]
          refine Rt.C_take (none) (i := 7) (oi := _) (v := ?_) rfl (by kernel_rfl) (by kernel_rfl) (by kernel_rfl) (by kernel_rfl) (fun _ _ _ h => h) (Sc2.other (by decide)) (Or.inl ⟨by rfl, ?_⟩) (fun o' _ => hS1 o') ?_
          rotate_left
          · intro w2 hSw
            obtain ⟨s0, s1, s2, s3, s4, s5, s6, s7, s8, s9, s10, s11, s12⟩ := hSw
            go_simp
            try with_reducible rfl
          simp only [Act.put, List.getElem_toArray, List.getElem_cons_succ, List.getElem_cons_zero, List.setIfInBounds_toArray, List.set_cons_zero, List.set_cons_succ]
          refine Rt.C_take (none) (i := 8) (oi := _) (v := ?_) rfl (by kernel_rfl) (by kernel_rfl) (by kernel_rfl) (by kernel_rfl) (fun _ _ _ h => h) (Sc2.other (by decide)) (Or.inl ⟨by rfl, ?_⟩) (fun o' _ => hS1 o') ?_
          rotate_left
          · intro w2 hSw
            obtain ⟨s0, s1, s2, s3, s4, s5, s6, s7, s8, s9, s10, s11, s12⟩ := hSw
            go_simp
            try with_reducible rfl
          simp only [Act.put, List.getElem_toArray, List.getElem_cons_succ, List.getElem_cons_zero, List.setIfInBounds_toArray, List.set_cons_zero, List.set_cons_succ]
          refine Rt.C_take (none) (i := 9) (oi := _) (v := ?_) rfl (by kernel_rfl) (by kernel_rfl) (by kernel_rfl) (by kernel_rfl) (fun _ _ _ h => h) (Sc2.other (by decide)) (Or.inl ⟨by rfl, ?_⟩) (fun o' _ => hS1 o') ?_
          rotate_left
          · intro w2 hSw
            obtain ⟨s0, s1, s2, s3, s4, s5, s6, s7, s8, s9, s10, s11, s12⟩ := hSw
            go_simp
            try with_reducible rfl
          simp only [Act.put, List.getElem_toArray, List.getElem_cons_succ, List.getElem_cons_zero, List.setIfInBounds_toArray, List.set_cons_zero, List.set_cons_succ]
          refine Rt.C_take (none) (i := 10) (oi := _) (v := ?_) rfl (by kernel_rfl) (by kernel_rfl) (by kernel_rfl) (by kernel_rfl) (fun _ _ _ h => h) (Sc2.other (by decide)) (Or.inl ⟨by rfl, ?_⟩) (fun o' _ => hS1 o') ?_
          rotate_left
          · intro w2 hSw
            obtain ⟨s0, s1, s2, s3, s4, s5, s6, s7, s8, s9, s10, s11, s12⟩ := hSw
            go_simp
            try with_reducible rfl
          simp only [Act.put, List.getElem_toArray, List.getElem_cons_succ, List.getElem_cons_zero, List.setIfInBounds_toArray, List.set_cons_zero, List.set_cons_succ]
          refine Rt.C_take (none) (i := 11) (oi := _) (v := ?_) rfl (by kernel_rfl) (by kernel_rfl) (by kernel_rfl) (by kernel_rfl) (fun _ _ _ h => h) (Sc2.other (by decide)) (Or.inl ⟨by rfl, ?_⟩) (fun o' _ => hS1 o') ?_
          rotate_left
          · intro w2 hSw
            obtain ⟨s0, s1, s2, s3, s4, s5, s6, s7, s8, s9, s10, s11, s12⟩ := hSw
            go_simp
            try with_reducible rfl
          simp only [Act.put, List.getElem_toArray, List.getElem_cons_succ, List.getElem_cons_zero, List.setIfInBounds_toArray, List.set_cons_zero, List.set_cons_succ]
          refine Rt.C_take (none) (i := 12) (oi := _) (v := ?_) rfl (by kernel_rfl) (by kernel_rfl) (by kernel_rfl) (by kernel_rfl) (fun _ _ _ h => h) (Sc2.other (by decide)) (Or.inl ⟨by rfl, ?_⟩) (fun o' _ => hS1 o') ?_
          rotate_left
          · intro w2 hSw
            obtain ⟨s0, s1, s2, s3, s4, s5, s6, s7, s8, s9, s10, s11, s12⟩ := hSw
            go_simp
            try with_reducible rfl
          simp only [Act.put, List.getElem_toArray, List.getElem_cons_succ, List.getElem_cons_zero, List.setIfInBounds_toArray, List.set_cons_zero, List.set_cons_succ]
          refine Rt.C_take (none) (i := 13) (oi := _) (v := ?_) rfl (by kernel_rfl) (by kernel_rfl) (by kernel_rfl) (by kernel_rfl) (fun _ _ _ h => h) (Sc2.other (by decide)) (Or.inl ⟨by rfl, ?_⟩) (fun o' _ => hS1 o') ?_
          rotate_left
          · intro w2 hSw
            obtain ⟨s0, s1, s2, s3, s4, s5, s6, s7, s8, s9, s10, s11, s12⟩ := hSw
            go_simp
            try with_reducible rfl
          simp only [Act.put, List.getElem_toArray, List.getElem_cons_succ, List.getElem_cons_zero, List.setIfInBounds_toArray, List.set_cons_zero, List.set_cons_succ]
          refine Rt.C_take (none) (i := 14) (oi := _) (v := ?_) rfl (by kernel_rfl) (by kernel_rfl) (by kernel_rfl) (by kernel_rfl) (fun _ _ _ h => h) (Sc2.other (by decide)) (Or.inl ⟨by rfl, ?_⟩) (fun o' _ => hS1 o') ?_
          rotate_left
          · intro w2 hSw
            obtain ⟨s0, s1, s2, s3, s4, s5, s6, s7, s8, s9, s10, s11, s12⟩ := hSw
            go_simp
            try with_reducible rfl
          simp only [Act.put, List.getElem_toArray, List.getElem_cons_succ, List.getElem_cons_zero, List.setIfInBounds_toArray, List.set_cons_zero, List.set_cons_succ]
          clear hS1 cgd HUd HQd HPd
          refine Rt.C_ready (rs := [4]) (by kernel_rfl) (by simp) ?_
          refine Rt.AllC.cons (i := 4) (o := _) rfl (by rfl) (fun K' hK => ?_) ?_
          · skip
            go_simp
            refine (HMI.out x y wr.drew (HB.out.trans (hdr.mono HB.out.size)) HXY.out.1 HXY.out.2).mono ?_
            rintro e8 w8 ⟨rfl, hb8⟩
            have HB8 : Hid (Below wr.heap.size wr w8) := Lib.hid (hdr.trans (hb8.mono hdr.size))
            clear hb8 hdr
            have cg8 := (HB8.out.cell (p := ⟨ab, ao + i, none⟩) hab1).trans cg
            have HU := Lib.hid (HU.out.keep HB8.out HU.out.lt)
            have HQ := Lib.hid (HQ.out.keep HB8.out HQ.out.lt)
            have HP := Lib.hid (HP.out.keep HB8.out HP.out.lt)
            have HB := Lib.hid (HB.out.trans (HB8.out.mono HB.out.size))
            clear HB8
            rw [← hmv]
            clear hmv
            go_simp
            have hS2 : ∀ o, Sc2 (fun w2 => w2.cell? ⟨ub, 0, none⟩ = some (.int .i64 K) ∧ w2.cell? ⟨ub, 1, none⟩ = some (.int .i64 B) ∧ w2.cell? ⟨ub, 2, none⟩ = some (.int .i64 S) ∧ w2.cell? ⟨ub, 3, none⟩ = some (.int .i64 st) ∧ w2.cell? ⟨ub, 4, none⟩ = some (.int .i64 ra) ∧ w2.cell? ⟨ub, 5, none⟩ = some (.slice ta tn tc) ∧ w2.cell? ⟨ub, 6, none⟩ = some (.string tu) ∧ w2.cell? ⟨qb, 0, none⟩ = some (.int .i64 (wd : Nat)) ∧ w2.cell? ⟨qb, 1, none⟩ = some (.int .i64 (h2 : Nat)) ∧ w2.cell? ⟨qb, 2, none⟩ = some (.slice qa m qc) ∧ w2.cell? ⟨pb, 0, none⟩ = some (.int .i64 W) ∧ w2.cell? ⟨pb, 2, none⟩ = some (.slice (some ⟨ab, ao, none⟩) n c) ∧ w2.cell? ⟨ab, ao + i, none⟩ = some (.int .i64 (v : Nat))) (fun w2 => True) 999 o w8 := Sc2.of ⟨HU.out.cell 0, HU.out.cell 1, HU.out.cell 2, HU.out.cell 3, HU.out.cell 4, HU.out.cell 5, HU.out.cell 6, HQ.out.cell 0, HQ.out.cell 1, HQ.out.cell 2, HP.out.cell 0, HP.out.cell 2, cg8⟩ trivial
            refine hK _ _ (fun o' _ => hS2 o') ?_
            clear hK K'
            simp only [Act.put, List.getElem_toArray, List.getElem_cons_succ, List.getElem_cons_zero, List.setIfInBounds_toArray, List.set_cons_zero, List.set_cons_succ]
            refine Rt.C_take (none) (i := 15) (oi := _) (v := ?_) rfl (by kernel_rfl) (by kernel_rfl) (by kernel_rfl) (by kernel_rfl) (fun _ _ _ h => h) (Sc2.other (by decide)) (Or.inl ⟨by rfl, ?_⟩) (fun o' _ => hS2 o') ?_
            rotate_left
            · intro w2 hSw
              obtain ⟨s0, s1, s2, s3, s4, s5, s6, s7, s8, s9, s10, s11, s12⟩ := hSw
              go_simp
              try with_reducible rfl
            simp only [Act.put, List.getElem_toArray, List.getElem_cons_succ, List.getElem_cons_zero, List.setIfInBounds_toArray, List.set_cons_zero, List.set_cons_succ]
            refine Rt.C_done (by kernel_rfl) ?_ _
            refine NoPanic.normal ?_
            clear hS2 cg8 cg
            have hq1 : ((mv : Int) == (v : Int)) = !q := by rw [HQE.out, bne, Bool.not_not]
            have hq2 : ((mv : Int) != (v : Int)) = q := HQE.out.symm
            cases q
            · have hq1 : ((mv : Int) == (v : Int)) = true := hq1
              have HC1 : Hid (∀ x', x' < x + 1 → midV B S g wd x' y = f x' y) := Lib.hid (fun x' hx' => by
                rcases Nat.lt_or_eq_of_le (Nat.le_of_lt_succ hx') with h | rfl
                · exact HC.out x' h
                · exact (HQV.out).1 (by first | rfl | trivial))
              have hxw := HXW.out
              have hw5 := HW5.out
              go_wp2_with fail
              go_roundw
              case rel => exact ⟨x + 1, HXW.out, by go_num, HC1.out, HU.out, HQ.out, HP.out, HB.out⟩
              case measure => simp [RowKit.intOf]; omega
            · have hq1 : ((mv : Int) == (v : Int)) = false := hq1
              go_wp2_with fail
              go_ret
              exact ⟨.inr ⟨rfl, fun h => absurd (h x y HXW.out HYH.out) ((HQV.out).2 (by first | rfl | trivial))⟩, HB.out⟩
          exact Rt.AllC.nil
        · obtain rfl : x = W := by omega
          have hne : ¬ (x : Int) < (x : Int) := by omega
          have HCY1 : Hid (∀ x' y', x' < x → y' < y + 1 → midV B S g wd x' y' = f x' y') := Lib.hid (fun x' y' hx' hy' => by
            rcases Nat.lt_or_eq_of_le (Nat.le_of_lt_succ hy') with h | rfl
            · exact HCY.out x' y' hx' h
            · exact HC.out x' hx')
          have hyh := HYH.out
          have hh5 := HH5.out
          clear hx hxw HC HCY
          go_wp2_with fail
          go_roundw
          case rel => exact ⟨y + 1, HYH.out, by go_num, HCY1.out, HU.out, HQ.out, HP.out, HB.out⟩
          case measure => simp [RowKit.intOf]; omega
    · obtain rfl : y = H := by omega
      have hne : ¬ (y : Int) < (y : Int) := by omega
      clear hyh hy
      go_wp2_with fail
      go_ret
      exact ⟨.inl ⟨rfl, HCY.out⟩, HB.out⟩
set_option maxHeartbeats 8000000 in
set_option maxRecDepth 1000000 in
theorem made_no (K B S st ra : Int) (ta : Option Addr) (tn tc : Nat) (tu : ByteArray) (W H : Nat) (a : Option Addr) (n c : Nat) (QW QH : Int) (m : Nat) (qa : Option Addr) (qc : Nat) (w : World) (hW : W ≤ 5) (hH : H ≤ 5) (hq : QW ≠ (W : Int) + 2 ∨ QH ≠ (H : Int) + 2) :
    Calls Tryd.prog 11 #[.agg #[.int .i64 K, .int .i64 B, .int .i64 S, .int .i64 st, .int .i64 ra, .slice ta tn tc, .string tu], .agg #[.int .i64 QW, .int .i64 QH, .slice qa m qc], .agg #[.int .i64 W, .int .i64 H, .slice a n c]] w fun e w' => e = .returned (.bool false) ∧ Below w.heap.size w w' := by
  have aW : wrap64 ((W : Int) + 2) = (W : Int) + 2 := wr_in (by omega) (by omega)
  have aH : wrap64 ((H : Int) + 2) = (H : Int) + 2 := by clear aW; exact wr_in (by omega) (by omega)
  have aW' := wr_same aW
  have aH' := wr_same aH
  clear hW hH
  go_enter Tryd.func11, Tryd.ntmps11
  go_upto_region 1 with fail
  obtain ⟨hr1, hr2, hr3, hb2⟩ := three_new w 24 26 26 (rulP K B S st ra ta tn tc tu) (boxP QW QH qa m qc) (boxP W H a n c)
  have HU : Hid (Row (((w.alloc (.cells #[.int .i64 K, .int .i64 B, .int .i64 S, .int .i64 st, .int .i64 ra, .slice ta tn tc, .string tu] 24)).alloc (.cells #[.int .i64 QW, .int .i64 QH, .slice qa m qc] 26)).alloc (.cells #[.int .i64 W, .int .i64 H, .slice a n c] 26)) w.heap.size 24 (rulP K B S st ra ta tn tc tu)) := hr1
  have HQ : Hid (Row (((w.alloc (.cells #[.int .i64 K, .int .i64 B, .int .i64 S, .int .i64 st, .int .i64 ra, .slice ta tn tc, .string tu] 24)).alloc (.cells #[.int .i64 QW, .int .i64 QH, .slice qa m qc] 26)).alloc (.cells #[.int .i64 W, .int .i64 H, .slice a n c] 26)) (w.heap.size + 1) 26 (boxP QW QH qa m qc)) := hr2
  have HP : Hid (Row (((w.alloc (.cells #[.int .i64 K, .int .i64 B, .int .i64 S, .int .i64 st, .int .i64 ra, .slice ta tn tc, .string tu] 24)).alloc (.cells #[.int .i64 QW, .int .i64 QH, .slice qa m qc] 26)).alloc (.cells #[.int .i64 W, .int .i64 H, .slice a n c] 26)) (w.heap.size + 1 + 1) 26 (boxP W H a n c)) := hr3
  have HB : Hid (Below w.heap.size w (((w.alloc (.cells #[.int .i64 K, .int .i64 B, .int .i64 S, .int .i64 st, .int .i64 ra, .slice ta tn tc, .string tu] 24)).alloc (.cells #[.int .i64 QW, .int .i64 QH, .slice qa m qc] 26)).alloc (.cells #[.int .i64 W, .int .i64 H, .slice a n c] 26))) := hb2
  clear hr1 hr2 hr3 hb2
  generalize ((w.alloc (.cells #[.int .i64 K, .int .i64 B, .int .i64 S, .int .i64 st, .int .i64 ra, .slice ta tn tc, .string tu] 24)).alloc (.cells #[.int .i64 QW, .int .i64 QH, .slice qa m qc] 26)).alloc (.cells #[.int .i64 W, .int .i64 H, .slice a n c] 26) = w1 at *
  obtain ⟨ub, hub⟩ : ∃ ub, ub = w.heap.size := ⟨_, rfl⟩
  rw [← hub] at HU HQ HP ⊢
  obtain ⟨qb, hqb⟩ : ∃ qb, qb = ub + 1 := ⟨_, rfl⟩
  rw [← hqb] at HQ HP ⊢
  obtain ⟨pb, hpb⟩ : ∃ pb, pb = qb + 1 := ⟨_, rfl⟩
  rw [← hpb] at HP ⊢
  clear hub hqb hpb
  have q0 := HQ.out.cell 0
  have q1 := HQ.out.cell 1
  have q2 := HQ.out.cell 2
  have p0 := HP.out.cell 0
  have p1 := HP.out.cell 1
  unfold boxP at q0 q1 q2 p0 p1
  dsimp only [List.getElem?_cons_succ, List.getElem?_cons_zero] at q0 q1 q2 p0 p1
  by_cases hw : QW = (W : Int) + 2
  · have hh : QH ≠ (H : Int) + 2 := fun e => by rcases hq with h | h <;> contradiction
    have e1 : (QW == (W : Int) + 2) = true := beq_iff_eq.2 hw
    have e2 : (QW != (W : Int) + 2) = false := by rw [bne, e1]; rfl
    have e3 : (QH == (H : Int) + 2) = false := beq_eq_false_iff_ne.2 hh
    have e4 : (QH != (H : Int) + 2) = true := bne_iff_ne.2 hh
    clear hq hw hh
    go_wp2_with fail
    go_ret
    exact ⟨rfl, HB.out⟩
  · have e3 : (QW == (W : Int) + 2) = false := beq_eq_false_iff_ne.2 hw
    have e4 : (QW != (W : Int) + 2) = true := bne_iff_ne.2 hw
    clear hq hw
    go_wp2_with fail
    go_ret
    exact ⟨rfl, HB.out⟩
end Pn
end Go.Proofs.YthipeeagpllfeaaDoor
