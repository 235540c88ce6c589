/- WALK: plane.finder's makes. -/
import Derived.Test.YthipeeagpllfeaaDoorPpPl
import Derived.Test.YthipeeagpllfeaaDoorPnK
namespace Go.Proofs.YthipeeagpllfeaaDoor
set_option linter.unusedSimpArgs false
set_option linter.unusedVariables false
open Go.RowKit
namespace Pn
open Tld Mem Bl

/-- The program's finder. -/
def finP (K B S st ra : Int) (ta : Option Addr) (tn tc : Nat) (tu : ByteArray) (W H : Int) (a : Option Addr) (n c : Nat) (wd : Int) (vm : Value) : List Value := [.int .i64 K, .int .i64 B, .int .i64 S, .int .i64 st, .int .i64 ra, .slice ta tn tc, .string tu, .int .i64 W, .int .i64 H, .slice a n c, .int .i64 wd, vm]
theorem sh7_fin : ∀ s : Fin 8, ∀ v : Fin 128, bits .and .i64 ((v.val : Int) / 2 ^ s.val) 1 = ((v.val / 2 ^ s.val % 2 : Nat) : Int) := by decide +kernel
theorem sh7 {v s : Nat} (hv : v < 128) (hs : s < 8) : bits .and .i64 ((v : Int) / 2 ^ s) 1 = ((v / 2 ^ s % 2 : Nat) : Int) := sh7_fin ⟨s, hs⟩ ⟨v, hv⟩
theorem rb_lt (w r x : Nat) : rb w r x < 2 := Nat.mod_lt _ (by decide)
theorem ne_two (x y : Nat) : (((x : Int) != (y : Int)) = false → x = y) ∧ (((x : Int) != (y : Int)) = true → ¬ x = y) := by
  constructor
  · intro h
    rw [bne_eq_false_iff_eq] at h
    exact Int.ofNat.inj h
  · intro h e
    rw [bne_iff_ne] at h
    exact h (by rw [e])
/-- The cells of three rows, the first k columns of three. -/
def nS (w a b c x : Nat) : Nat → Nat
  | 0 => 0
  | k + 1 => nS w a b c x k + (rb w a (x + k) + rb w b (x + k) + rb w c (x + k))
theorem nS_le (w a b c x : Nat) : ∀ k, nS w a b c x k ≤ 3 * k
  | 0 => Nat.le_refl _
  | k + 1 => by
    have h := nS_le w a b c x k
    have h1 := rb_lt w a (x + k)
    have h2 := rb_lt w b (x + k)
    have h3 := rb_lt w c (x + k)
    show nS w a b c x k + (rb w a (x + k) + rb w b (x + k) + rb w c (x + k)) ≤ _
    omega
theorem nS_nine (w a b c x : Nat) : nS w a b c x 3 = nineR w a b c x := by
  unfold nineR
  show 0 + (rb w a (x + 0) + rb w b (x + 0) + rb w c (x + 0)) + (rb w a (x + 1) + rb w b (x + 1) + rb w c (x + 1)) + (rb w a (x + 2) + rb w b (x + 2) + rb w c (x + 2)) = _
  rw [Nat.add_zero]
  omega
theorem nine_me (w a b c x : Nat) : rb w b (x + 1) ≤ nineR w a b c x := by unfold nineR; omega
theorem mk_step {wd W x k x1 x2 x3 : Nat} (hwd : wd = W + 2) (hx : x < W) (hW : W ≤ 5) (hk : k < 3) (h1 : x1 < 128) (h2 : x2 < 128) (h3 : x3 < 128) : ∃ s1 s2 s p1 p2 p3 p12 p123 z2 : Nat, z2 = nS wd x1 x2 x3 x (k + 1) ∧ min s 64 = s ∧
    wrap64 ((wd : Int) - 1) = (s1 : Int) ∧ wrap64 ((s1 : Int) - (x : Int)) = (s2 : Int) ∧ wrap64 ((s2 : Int) - (k : Int)) = (s : Int) ∧
    bits .and .i64 ((x1 : Int) / 2 ^ s) 1 = (p1 : Int) ∧ bits .and .i64 ((x2 : Int) / 2 ^ s) 1 = (p2 : Int) ∧ bits .and .i64 ((x3 : Int) / 2 ^ s) 1 = (p3 : Int) ∧
    wrap64 ((p1 : Int) + (p2 : Int)) = (p12 : Int) ∧ wrap64 ((p12 : Int) + (p3 : Int)) = (p123 : Int) ∧ wrap64 (((nS wd x1 x2 x3 x k : Nat) : Int) + (p123 : Int)) = (z2 : Int) := by
  have e : wd - 1 - x - k = wd - 1 - (x + k) := by omega
  have hs : wd - 1 - x - k < 8 := by omega
  have hle := nS_le wd x1 x2 x3 x k
  have r1 := rb_lt wd x1 (x + k)
  have r2 := rb_lt wd x2 (x + k)
  have r3 := rb_lt wd x3 (x + k)
  refine ⟨wd - 1, wd - 1 - x, wd - 1 - x - k, rb wd x1 (x + k), rb wd x2 (x + k), rb wd x3 (x + k), rb wd x1 (x + k) + rb wd x2 (x + k), rb wd x1 (x + k) + rb wd x2 (x + k) + rb wd x3 (x + k), _, rfl, Nat.min_eq_left (by omega), wr_nat (by omega) (by omega), wr_nat (by omega) (by omega), wr_nat (by omega) (by omega), ?_, ?_, ?_, wr_nat (by push_cast; rfl) (by omega), wr_nat (by push_cast; rfl) (by omega), wr_nat (by rw [nS]; push_cast; omega) (by rw [nS]; omega)⟩
  · rw [sh7 h1 hs, e]; rfl
  · rw [sh7 h2 hs, e]; rfl
  · rw [sh7 h3 hs, e]; rfl
theorem mk_mid {wd W x x1 x2 x3 : Nat} (hwd : wd = W + 2) (hx : x < W) (hW : W ≤ 5) (h2 : x2 < 128) : ∃ s1 s mv nb z : Nat, mv = rb wd x2 (x + 1) ∧ nb = nineR wd x1 x2 x3 x - rb wd x2 (x + 1) ∧ z = nineR wd x1 x2 x3 x ∧ mv < 2 ∧ nb < 10 ∧ min s 64 = s ∧
    wrap64 ((wd : Int) - 2) = (s1 : Int) ∧ wrap64 ((s1 : Int) - (x : Int)) = (s : Int) ∧ bits .and .i64 ((x2 : Int) / 2 ^ s) 1 = (mv : Int) ∧ wrap64 ((z : Int) - (mv : Int)) = (nb : Int) := by
  have e : wd - 2 - x = wd - 1 - (x + 1) := by omega
  have hs : wd - 2 - x < 8 := by omega
  have h9 : nineR wd x1 x2 x3 x ≤ 9 := by rw [← nS_nine]; exact nS_le _ _ _ _ _ 3
  have hme := nine_me wd x1 x2 x3 x
  refine ⟨wd - 2, wd - 2 - x, rb wd x2 (x + 1), _, _, rfl, rfl, rfl, rb_lt _ _ _, by omega, Nat.min_eq_left (by omega), wr_nat (by omega) (by omega), wr_nat (by omega) (by omega), ?_, wr_nat (by omega) (by omega)⟩
  rw [sh7 h2 hs, e]; rfl
theorem mk_nums3 {W H x row n : Nat} (hx : x < W) (hr : row < H) (hW : W ≤ 5) (hH : H ≤ 5) (hn : n = W * H) : ∃ y i : Nat, wrap64 ((row : Int) * (W : Int)) = (y : Int) ∧ wrap64 ((y : Int) + (x : Int)) = (i : Int) ∧ i = row * W + x ∧ i < n := by
  have h := at_lt hx hr
  have h2 : row * W ≤ 5 * 5 := Nat.mul_le_mul (by omega) hW
  refine ⟨row * W, row * W + x, ?_, ?_, rfl, by omega⟩
  · exact wr_nat (by push_cast; rfl) (by omega)
  · exact wr_nat (by push_cast; rfl) (by omega)

set_option maxHeartbeats 16000000 in
set_option maxRecDepth 1000000 in
theorem makes_any (K st ra : Int) (B S : Nat) (ta : Option Addr) (tn tc : Nat) (tu : ByteArray) (W H : Nat) (a : Option Addr) (n c : Nat) (f : Nat → Nat → Nat) (vm : Value) (fb wd x1 x2 x3 row : Nat) (w : World) (hBS : B < 512) (hSS : S < 512) (hwd : wd = W + 2) (hF : Row w fb 51 (finP K B S st ra ta tn tc tu W H a n c wd vm)) (hZ : Ints.Is w a n (flat W H f)) (hn : n = W * H) (hW : W ≤ 5) (hH : H ≤ 5) (hrow : row < H) (h1 : x1 < 128) (h2 : x2 < 128) (h3 : x3 < 128) :
    Calls Tryd.prog 27 #[.pointer (some ⟨fb, 0, none⟩), .int .i64 x1, .int .i64 x2, .int .i64 x3, .int .i64 row] w fun e w' => ((e = .returned (.bool true) ∧ mkR B S f wd W row x1 x2 x3) ∨ (e = .returned (.bool false) ∧ ¬ mkR B S f wd W row x1 x2 x3)) ∧ Below w.heap.size w w' := by
  have HBE := Lib.hid (fun (c n : Nat) (w2 : World) (hn : n < 10) (hc : c < 2) => becomes_any K st ra B S ta tn tc tu c n w2 hBS hSS hn hc)
  have HWD := Lib.hid hwd
  have HW5 := Lib.hid hW
  have HH5 := Lib.hid hH
  have HNN := Lib.hid hn
  have HRO := Lib.hid hrow
  have HX1 := Lib.hid h1
  have HX2 := Lib.hid h2
  have HX3 := Lib.hid h3
  have HF := Lib.hid hF
  have HZ := Lib.hid hZ
  clear hBS hSS hwd hF hZ hn hW hH hrow h1 h2 h3
  go_enter Tryd.func27, Tryd.ntmps27
  have q7 := HF.out.cell 7
  unfold finP at q7
  dsimp only [List.getElem?_cons_succ, List.getElem?_cons_zero] at q7
  go_wp2_with fail
  clear q7
  go_loopw [21] (fun u wr => ∃ x : Nat, x ≤ W ∧ u = .int .i64 (x : Nat) ∧ (∀ x', x' < x → bec B S (rb wd x2 (x' + 1)) (nineR wd x1 x2 x3 x' - rb wd x2 (x' + 1)) = f x' row) ∧ Row wr fb 51 (finP K B S st ra ta tn tc tu W H a n c wd vm) ∧ Ints.Is wr a n (flat W H f) ∧ Below w.heap.size w wr) (fun u _ => W - (RowKit.intOf u).toNat)
  case atStart => exact ⟨0, Nat.zero_le _, rfl, fun x' h => absurd h (Nat.not_lt_zero _), HF.out, HZ.out, Below.refl _ _⟩
  case round =>
    clear HF HZ
    obtain ⟨x, hx, rfl, hc, hF1, hZ1, hB1⟩ := hrel
    have HC := Lib.hid hc
    have HF1 := Lib.hid hF1
    have HZ1 := Lib.hid hZ1
    have HB := Lib.hid hB1
    clear hc hF1 hZ1 hB1
    by_cases hxW : x < W
    · have hxi : (x : Int) < (W : Int) := by omega
      have HXW := Lib.hid hxW
      have HN0 : Hid ((0 : Int) = ((nS wd x1 x2 x3 x 0 : Nat) : Int)) := Lib.hid rfl
      go_wp2_with fail
      obtain ⟨wo, hwo⟩ : ∃ wo : World, wo = wr := ⟨_, rfl⟩
      rw [← hwo] at HF1 HZ1 HB ⊢
      clear hwo
      go_loopw [24, 12] (fun u v wx => ∃ k : Nat, k ≤ 3 ∧ u = .int .i64 (k : Nat) ∧ v = .int .i64 ((nS wd x1 x2 x3 x k : Nat) : Int) ∧ ∃ q, wx = wo.drewN q) (fun u _ _ => 3 - (RowKit.intOf u).toNat)
      case atStart => exact ⟨0, by omega, rfl, rfl, 0, rfl⟩
      case round =>
        obtain ⟨k, hk, rfl, rfl, q0, hwx⟩ := hrel
        have HWX := Lib.hid hwx
        clear hwx
        by_cases hk3 : k < 3
        · have hki : (k : Int) < 3 := by omega
          have HK3 := Lib.hid hk3
          obtain ⟨s1, s2, s, p1, p2, p3, p12, p123, z2, hz2, hs8, a1, a2, a3, b1, b2, b3, c1, c2, c3⟩ := mk_step HWD.out HXW.out HW5.out hk3 HX1.out HX2.out HX3.out
          have HZ2 := Lib.hid hz2
          obtain ⟨z, hz⟩ : ∃ z, z = nS wd x1 x2 x3 x k := ⟨_, rfl⟩
          rw [← hz] at c3 ⊢
          have a1' := wr_same a1
          have a2' := wr_same a2
          have a3' := wr_same a3
          have c1' := wr_same c1
          have c2' := wr_same c2
          have c3' := wr_same c3
          have q10 : wr.cell? ⟨fb, 10, none⟩ = some (.int .i64 (wd : Nat)) := by rw [HWX.out]; exact (HF1.out.drewN q0).cell 10
          clear hz hz2 hk3
          go_upto_region 9 with fail
          clear q10
          go_big_quiet (fail)
          go_wp2_with fail
          go_roundw
          case rel => exact ⟨k + 1, HK3.out, by go_num, by rw [← HZ2.out], _, by rw [HWX.out, World.drewN_drewN]⟩
          case measure => have := HK3.out; simp [RowKit.intOf]; omega
        · obtain rfl : k = 3 := by omega
          have hne : ¬ (3 : Int) < 3 := by omega
          have h1 : Row wr fb 51 (finP K B S st ra ta tn tc tu W H a n c wd vm) := by rw [HWX.out]; exact HF1.out.drewN _
          have h2 : Ints.Is wr a n (flat W H f) := by rw [HWX.out]; exact HZ1.out.keep ⟨rfl, rfl, rfl, Nat.le_refl _, fun _ _ => rfl⟩
          have h3 : Below w.heap.size w wr := by rw [HWX.out]; exact HB.out.trans ⟨rfl, rfl, rfl, Nat.le_refl _, fun _ _ => rfl⟩
          clear HF1 HZ1 HB HWX
          have HF1 := Lib.hid h1
          have HZ1 := Lib.hid h2
          have HB := Lib.hid h3
          clear h1 h2 h3
          obtain ⟨y, i, a3, a4, hi, hin⟩ := mk_nums3 HXW.out HRO.out HW5.out HH5.out HNN.out
          obtain ⟨ab, ao, habe, hab1, cg⟩ := HZ1.out.cells i hin
          subst habe
          dsimp only at cg hab1
          rw [hi, flat_at HXW.out HRO.out, ← hi] at cg
          obtain ⟨v, hv⟩ : ∃ v, v = f x row := ⟨_, rfl⟩
          rw [← hv] at cg
          obtain ⟨s1, s, mv, nb, z, hmr, hnb, hz, hm2, hn10, hs8, a1, a2, b2, c1⟩ := mk_mid (x1 := x1) (x3 := x3) HWD.out HXW.out HW5.out HX2.out
          have HM2 := Lib.hid hm2
          have HN10 := Lib.hid hn10
          rw [nS_nine, ← hz]
          rw [← hmr] at hnb
          obtain ⟨bv, hbv⟩ : ∃ bv, bv = bec B S mv nb := ⟨_, rfl⟩
          obtain ⟨q, hq⟩ : ∃ q, q = ((bv : Int) != (v : Int)) := ⟨_, rfl⟩
          have HQV : Hid ((q = false → bec B S (rb wd x2 (x + 1)) (nineR wd x1 x2 x3 x - rb wd x2 (x + 1)) = f x row) ∧ (q = true → ¬ bec B S (rb wd x2 (x + 1)) (nineR wd x1 x2 x3 x - rb wd x2 (x + 1)) = f x row)) := Lib.hid (by
            rw [← hmr, ← hnb, ← hbv, ← hv, hq]
            exact ne_two bv v)
          have a1' := wr_same a1
          have a2' := wr_same a2
          have a3' := wr_same a3
          have a4' := wr_same a4
          have c1' := wr_same c1
          have hi2 : (i : Int) < (n : Int) := Int.ofNat_lt.2 hin
          have q10 := HF1.out.cell 10
          unfold finP at q10
          dsimp only [List.getElem?_cons_succ, List.getElem?_cons_zero] at q10
          clear hi hin hv hmr hm2 hn10 hnb hz hne
          go_upto_region 12 with fail
          clear q10
          have hdr : Below wr.heap.size wr wr.drew := (Below.refl _ _).drew
          have HFd := Lib.hid (HF1.out.keep hdr HF1.out.lt)
          have cgd := (hdr.cell (p := ⟨ab, ao + i, none⟩) hab1).trans cg
          refine wp_region_noPanic ?_
          refine Rt.region_Cn (Sc2 (fun w2 => w2.cell? ⟨fb, 0, none⟩ = some (.int .i64 K) ∧ w2.cell? ⟨fb, 1, none⟩ = some (.int .i64 B) ∧ w2.cell? ⟨fb, 2, none⟩ = some (.int .i64 S) ∧ w2.cell? ⟨fb, 3, none⟩ = some (.int .i64 st) ∧ w2.cell? ⟨fb, 4, none⟩ = some (.int .i64 ra) ∧ w2.cell? ⟨fb, 5, none⟩ = some (.slice ta tn tc) ∧ w2.cell? ⟨fb, 6, none⟩ = some (.string tu) ∧ w2.cell? ⟨fb, 7, none⟩ = some (.int .i64 W) ∧ w2.cell? ⟨fb, 9, none⟩ = some (.slice (some ⟨ab, ao, none⟩) n c) ∧ w2.cell? ⟨ab, ao + i, none⟩ = some (.int .i64 (v : Nat))) (fun w2 => True) 999) 26 #[false, false, false, false, false, false, false, false, false, false, false, false, false, false, false, false, false, false, false, false, false, false, false, false, false, false] (by kernel_rfl) (by kernel_rfl) (by kernel_rfl) ?_
          have hS1 : ∀ o, Sc2 (fun w2 => w2.cell? ⟨fb, 0, none⟩ = some (.int .i64 K) ∧ w2.cell? ⟨fb, 1, none⟩ = some (.int .i64 B) ∧ w2.cell? ⟨fb, 2, none⟩ = some (.int .i64 S) ∧ w2.cell? ⟨fb, 3, none⟩ = some (.int .i64 st) ∧ w2.cell? ⟨fb, 4, none⟩ = some (.int .i64 ra) ∧ w2.cell? ⟨fb, 5, none⟩ = some (.slice ta tn tc) ∧ w2.cell? ⟨fb, 6, none⟩ = some (.string tu) ∧ w2.cell? ⟨fb, 7, none⟩ = some (.int .i64 W) ∧ w2.cell? ⟨fb, 9, none⟩ = some (.slice (some ⟨ab, ao, none⟩) n c) ∧ w2.cell? ⟨ab, ao + i, none⟩ = some (.int .i64 (v : Nat))) (fun w2 => True) 999 o wr.drew := Sc2.of ⟨HFd.out.cell 0, HFd.out.cell 1, HFd.out.cell 2, HFd.out.cell 3, HFd.out.cell 4, HFd.out.cell 5, HFd.out.cell 6, HFd.out.cell 7, HFd.out.cell 9, cgd⟩ trivial
          refine Rt.C_take (none) (i := 0) (oi := _) (v := ?_) rfl (by kernel_rfl) (by kernel_rfl) (by kernel_rfl) (by kernel_rfl) (fun _ _ _ h => h) (Sc2.other (by decide)) (Or.inl ⟨by rfl, ?_⟩) (fun o' _ => hS1 o') ?_
          rotate_left
          · intro w2 hSw
            obtain ⟨s0, s1, s2, s3, s4, s5, s6, s7, s8, s9⟩ := hSw
            go_simp
            try with_reducible rfl
          simp only [Act.put, List.getElem_toArray, List.getElem_cons_succ, List.getElem_cons_zero, List.setIfInBounds_toArray, List.set_cons_zero, List.set_cons_succ]
          refine Rt.C_take (none) (i := 1) (oi := _) (v := ?_) rfl (by kernel_rfl) (by kernel_rfl) (by kernel_rfl) (by kernel_rfl) (fun _ _ _ h => h) (Sc2.other (by decide)) (Or.inl ⟨by rfl, ?_⟩) (fun o' _ => hS1 o') ?_
          rotate_left
          · intro w2 hSw
            obtain ⟨s0, s1, s2, s3, s4, s5, s6, s7, s8, s9⟩ := hSw
            go_simp
            try with_reducible rfl
          simp only [Act.put, List.getElem_toArray, List.getElem_cons_succ, List.getElem_cons_zero, List.setIfInBounds_toArray, List.set_cons_zero, List.set_cons_succ]
          refine Rt.C_take (none) (i := 2) (oi := _) (v := ?_) rfl (by kernel_rfl) (by kernel_rfl) (by kernel_rfl) (by kernel_rfl) (fun _ _ _ h => h) (Sc2.other (by decide)) (Or.inl ⟨by rfl, ?_⟩) (fun o' _ => hS1 o') ?_
          rotate_left
          · intro w2 hSw
            obtain ⟨s0, s1, s2, s3, s4, s5, s6, s7, s8, s9⟩ := hSw
            go_simp
            try with_reducible rfl
          simp only [Act.put, List.getElem_toArray, List.getElem_cons_succ, List.getElem_cons_zero, List.setIfInBounds_toArray, List.set_cons_zero, List.set_cons_succ]
          refine Rt.C_take (none) (i := 3) (oi := _) (v := ?_) rfl (by kernel_rfl) (by kernel_rfl) (by kernel_rfl) (by kernel_rfl) (fun _ _ _ h => h) (Sc2.other (by decide)) (Or.inl ⟨by rfl, ?_⟩) (fun o' _ => hS1 o') ?_
          rotate_left
          · intro w2 hSw
            obtain ⟨s0, s1, s2, s3, s4, s5, s6, s7, s8, s9⟩ := hSw
            go_simp
            try with_reducible rfl
          simp only [Act.put, List.getElem_toArray, List.getElem_cons_succ, List.getElem_cons_zero, List.setIfInBounds_toArray, List.set_cons_zero, List.set_cons_succ]
          refine Rt.C_take (none) (i := 4) (oi := _) (v := ?_) rfl (by kernel_rfl) (by kernel_rfl) (by kernel_rfl) (by kernel_rfl) (fun _ _ _ h => h) (Sc2.other (by decide)) (Or.inl ⟨by rfl, ?_⟩) (fun o' _ => hS1 o') ?_
          rotate_left
          · intro w2 hSw
            obtain ⟨s0, s1, s2, s3, s4, s5, s6, s7, s8, s9⟩ := hSw
            go_simp
            try with_reducible rfl
          simp only [Act.put, List.getElem_toArray, List.getElem_cons_succ, List.getElem_cons_zero, List.setIfInBounds_toArray, List.set_cons_zero, List.set_cons_succ]
          refine Rt.C_take (none) (i := 5) (oi := _) (v := ?_) rfl (by kernel_rfl) (by kernel_rfl) (by kernel_rfl) (by kernel_rfl) (fun _ _ _ h => h) (Sc2.other (by decide)) (Or.inl ⟨by rfl, ?_⟩) (fun o' _ => hS1 o') ?_
          rotate_left
          · intro w2 hSw
            obtain ⟨s0, s1, s2, s3, s4, s5, s6, s7, s8, s9⟩ := hSw
            go_simp
            try with_reducible rfl
          simp only [Act.put, List.getElem_toArray, List.getElem_cons_succ, List.getElem_cons_zero, List.setIfInBounds_toArray, List.set_cons_zero, List.set_cons_succ]
          refine Rt.C_take (none) (i := 6) (oi := _) (v := ?_) rfl (by kernel_rfl) (by kernel_rfl) (by kernel_rfl) (by kernel_rfl) (fun _ _ _ h => h) (Sc2.other (by decide)) (Or.inl ⟨by rfl, ?_⟩) (fun o' _ => hS1 o') ?_
          rotate_left
          · intro w2 hSw
            obtain ⟨s0, s1, s2, s3, s4, s5, s6, s7, s8, s9⟩ := hSw
            go_simp
            try with_reducible rfl
          simp only [Act.put, List.getElem_toArray, List.getElem_cons_succ, List.getElem_cons_zero, List.setIfInBounds_toArray, List.set_cons_zero, List.set_cons_succ]
          refine Rt.C_take (none) (i := 7) (oi := _) (v := ?_) rfl (by kernel_rfl) (by kernel_rfl) (by kernel_rfl) (by kernel_rfl) (fun _ _ _ h => h) (Sc2.other (by decide)) (Or.inl ⟨by rfl, ?_⟩) (fun o' _ => hS1 o') ?_
          rotate_left
          · intro w2 hSw
            obtain ⟨s0, s1, s2, s3, s4, s5, s6, s7, s8, s9⟩ := hSw
            go_simp
            try with_reducible rfl
          simp only [Act.put, List.getElem_toArray, List.getElem_cons_succ, List.getElem_cons_zero, List.setIfInBounds_toArray, List.set_cons_zero, List.set_cons_succ]
          refine Rt.C_take (none) (i := 9) (oi := _) (v := ?_) rfl (by kernel_rfl) (by kernel_rfl) (by kernel_rfl) (by kernel_rfl) (fun _ _ _ h => h) (Sc2.other (by decide)) (Or.inl ⟨by rfl, ?_⟩) (fun o' _ => hS1 o') ?_
          rotate_left
          · intro w2 hSw
            obtain ⟨s0, s1, s2, s3, s4, s5, s6, s7, s8, s9⟩ := hSw
            go_simp
            try with_reducible rfl
          simp only [Act.put, List.getElem_toArray, List.getElem_cons_succ, List.getElem_cons_zero, List.setIfInBounds_toArray, List.set_cons_zero, List.set_cons_succ]
          refine Rt.C_take (none) (i := 10) (oi := _) (v := ?_) rfl (by kernel_rfl) (by kernel_rfl) (by kernel_rfl) (by kernel_rfl) (fun _ _ _ h => h) (Sc2.other (by decide)) (Or.inl ⟨by rfl, ?_⟩) (fun o' _ => hS1 o') ?_
          rotate_left
          · intro w2 hSw
            obtain ⟨s0, s1, s2, s3, s4, s5, s6, s7, s8, s9⟩ := hSw
            go_simp
            try with_reducible rfl
          simp only [Act.put, List.getElem_toArray, List.getElem_cons_succ, List.getElem_cons_zero, List.setIfInBounds_toArray, List.set_cons_zero, List.set_cons_succ]
          refine Rt.C_take (none) (i := 11) (oi := _) (v := ?_) rfl (by kernel_rfl) (by kernel_rfl) (by kernel_rfl) (by kernel_rfl) (fun _ _ _ h => h) (Sc2.other (by decide)) (Or.inl ⟨by rfl, ?_⟩) (fun o' _ => hS1 o') ?_
          rotate_left
          · intro w2 hSw
            obtain ⟨s0, s1, s2, s3, s4, s5, s6, s7, s8, s9⟩ := hSw
            go_simp
            try with_reducible rfl
          simp only [Act.put, List.getElem_toArray, List.getElem_cons_succ, List.getElem_cons_zero, List.setIfInBounds_toArray, List.set_cons_zero, List.set_cons_succ]
          refine Rt.C_take (none) (i := 12) (oi := _) (v := ?_) rfl (by kernel_rfl) (by kernel_rfl) (by kernel_rfl) (by kernel_rfl) (fun _ _ _ h => h) (Sc2.other (by decide)) (Or.inl ⟨by rfl, ?_⟩) (fun o' _ => hS1 o') ?_
          rotate_left
          · intro w2 hSw
            obtain ⟨s0, s1, s2, s3, s4, s5, s6, s7, s8, s9⟩ := hSw
            go_simp
            try with_reducible rfl
          simp only [Act.put, List.getElem_toArray, List.getElem_cons_succ, List.getElem_cons_zero, List.setIfInBounds_toArray, List.set_cons_zero, List.set_cons_succ]
          refine Rt.C_take (none) (i := 13) (oi := _) (v := ?_) rfl (by kernel_rfl) (by kernel_rfl) (by kernel_rfl) (by kernel_rfl) (fun _ _ _ h => h) (Sc2.other (by decide)) (Or.inl ⟨by rfl, ?_⟩) (fun o' _ => hS1 o') ?_
          rotate_left
          · intro w2 hSw
            obtain ⟨s0, s1, s2, s3, s4, s5, s6, s7, s8, s9⟩ := hSw
            go_simp
            try with_reducible rfl
          simp only [Act.put, List.getElem_toArray, List.getElem_cons_succ, List.getElem_cons_zero, List.setIfInBounds_toArray, List.set_cons_zero, List.set_cons_succ]
          refine Rt.C_take (none) (i := 14) (oi := _) (v := ?_) rfl (by kernel_rfl) (by kernel_rfl) (by kernel_rfl) (by kernel_rfl) (fun _ _ _ h => h) (Sc2.other (by decide)) (Or.inl ⟨by rfl, ?_⟩) (fun o' _ => hS1 o') ?_
          rotate_left
          · intro w2 hSw
            obtain ⟨s0, s1, s2, s3, s4, s5, s6, s7, s8, s9⟩ := hSw
            go_simp
            try with_reducible rfl
          simp only [Act.put, List.getElem_toArray, List.getElem_cons_succ, List.getElem_cons_zero, List.setIfInBounds_toArray, List.set_cons_zero, List.set_cons_succ]
          refine Rt.C_take (none) (i := 15) (oi := _) (v := ?_) rfl (by kernel_rfl) (by kernel_rfl) (by kernel_rfl) (by kernel_rfl) (fun _ _ _ h => h) (Sc2.other (by decide)) (Or.inl ⟨by rfl, ?_⟩) (fun o' _ => hS1 o') ?_
          rotate_left
          · intro w2 hSw
            obtain ⟨s0, s1, s2, s3, s4, s5, s6, s7, s8, s9⟩ := hSw
            go_simp
            try with_reducible rfl
          simp only [Act.put, List.getElem_toArray, List.getElem_cons_succ, List.getElem_cons_zero, List.setIfInBounds_toArray, List.set_cons_zero, List.set_cons_succ]
          refine Rt.C_take (none) (i := 16) (oi := _) (v := ?_) rfl (by kernel_rfl) (by kernel_rfl) (by kernel_rfl) (by kernel_rfl) (fun _ _ _ h => h) (Sc2.other (by decide)) (Or.inl ⟨by rfl, ?_⟩) (fun o' _ => hS1 o') ?_
          rotate_left
          · intro w2 hSw
            obtain ⟨s0, s1, s2, s3, s4, s5, s6, s7, s8, s9⟩ := hSw
            go_simp
            try with_reducible rfl
          simp only [Act.put, List.getElem_toArray, List.getElem_cons_succ, List.getElem_cons_zero, List.setIfInBounds_toArray, List.set_cons_zero, List.set_cons_succ]
          refine Rt.C_take (none) (i := 17) (oi := _) (v := ?_) rfl (by kernel_rfl) (by kernel_rfl) (by kernel_rfl) (by kernel_rfl) (fun _ _ _ h => h) (Sc2.other (by decide)) (Or.inl ⟨by rfl, ?_⟩) (fun o' _ => hS1 o') ?_
          rotate_left
          · intro w2 hSw
            obtain ⟨s0, s1, s2, s3, s4, s5, s6, s7, s8, s9⟩ := hSw
            go_simp
            try with_reducible rfl
          simp only [Act.put, List.getElem_toArray, List.getElem_cons_succ, List.getElem_cons_zero, List.setIfInBounds_toArray, List.set_cons_zero, List.set_cons_succ]
          refine Rt.C_take (none) (i := 18) (oi := _) (v := ?_) rfl (by kernel_rfl) (by kernel_rfl) (by kernel_rfl) (by kernel_rfl) (fun _ _ _ h => h) (Sc2.other (by decide)) (Or.inl ⟨by rfl, ?_⟩) (fun o' _ => hS1 o') ?_
          rotate_left
          · intro w2 hSw
            obtain ⟨s0, s1, s2, s3, s4, s5, s6, s7, s8, s9⟩ := hSw
            go_simp
            try with_reducible rfl
          simp only [Act.put, List.getElem_toArray, List.getElem_cons_succ, List.getElem_cons_zero, List.setIfInBounds_toArray, List.set_cons_zero, List.set_cons_succ]
          refine Rt.C_take (none) (i := 19) (oi := _) (v := ?_) rfl (by kernel_rfl) (by kernel_rfl) (by kernel_rfl) (by kernel_rfl) (fun _ _ _ h => h) (Sc2.other (by decide)) (Or.inl ⟨by rfl, ?_⟩) (fun o' _ => hS1 o') ?_
          rotate_left
          · intro w2 hSw
            obtain ⟨s0, s1, s2, s3, s4, s5, s6, s7, s8, s9⟩ := hSw
            go_simp
            try with_reducible rfl
          simp only [Act.put, List.getElem_toArray, List.getElem_cons_succ, List.getElem_cons_zero, List.setIfInBounds_toArray, List.set_cons_zero, List.set_cons_succ]
          refine Rt.C_take (none) (i := 20) (oi := _) (v := ?_) rfl (by kernel_rfl) (by kernel_rfl) (by kernel_rfl) (by kernel_rfl) (fun _ _ _ h => h) (Sc2.other (by decide)) (Or.inl ⟨by rfl, ?_⟩) (fun o' _ => hS1 o') ?_
          rotate_left
          · intro w2 hSw
            obtain ⟨s0, s1, s2, s3, s4, s5, s6, s7, s8, s9⟩ := hSw
            go_simp
            try with_reducible rfl
          simp only [Act.put, List.getElem_toArray, List.getElem_cons_succ, List.getElem_cons_zero, List.setIfInBounds_toArray, List.set_cons_zero, List.set_cons_succ]
          refine Rt.C_take (none) (i := 21) (oi := _) (v := ?_) rfl (by kernel_rfl) (by kernel_rfl) (by kernel_rfl) (by kernel_rfl) (fun _ _ _ h => h) (Sc2.other (by decide)) (Or.inl ⟨by rfl, ?_⟩) (fun o' _ => hS1 o') ?_
          rotate_left
          · intro w2 hSw
            obtain ⟨s0, s1, s2, s3, s4, s5, s6, s7, s8, s9⟩ := hSw
            go_simp
            try with_reducible rfl
          simp only [Act.put, List.getElem_toArray, List.getElem_cons_succ, List.getElem_cons_zero, List.setIfInBounds_toArray, List.set_cons_zero, List.set_cons_succ]
          refine Rt.C_take (none) (i := 22) (oi := _) (v := ?_) rfl (by kernel_rfl) (by kernel_rfl) (by kernel_rfl) (by kernel_rfl) (fun _ _ _ h => h) (Sc2.other (by decide)) (Or.inl ⟨by rfl, ?_⟩) (fun o' _ => hS1 o') ?_
          rotate_left
          · intro w2 hSw
            obtain ⟨s0, s1, s2, s3, s4, s5, s6, s7, s8, s9⟩ := hSw
            go_simp
            try with_reducible rfl
          simp only [Act.put, List.getElem_toArray, List.getElem_cons_succ, List.getElem_cons_zero, List.setIfInBounds_toArray, List.set_cons_zero, List.set_cons_succ]
          refine Rt.C_take (none) (i := 23) (oi := _) (v := ?_) rfl (by kernel_rfl) (by kernel_rfl) (by kernel_rfl) (by kernel_rfl) (fun _ _ _ h => h) (Sc2.other (by decide)) (Or.inl ⟨by rfl, ?_⟩) (fun o' _ => hS1 o') ?_
          rotate_left
          · intro w2 hSw
            obtain ⟨s0, s1, s2, s3, s4, s5, s6, s7, s8, s9⟩ := hSw
            go_simp
            try with_reducible rfl
          simp only [Act.put, List.getElem_toArray, List.getElem_cons_succ, List.getElem_cons_zero, List.setIfInBounds_toArray, List.set_cons_zero, List.set_cons_succ]
          refine Rt.C_take (none) (i := 24) (oi := _) (v := ?_) rfl (by kernel_rfl) (by kernel_rfl) (by kernel_rfl) (by kernel_rfl) (fun _ _ _ h => h) (Sc2.other (by decide)) (Or.inl ⟨by rfl, ?_⟩) (fun o' _ => hS1 o') ?_
          rotate_left
          · intro w2 hSw
            obtain ⟨s0, s1, s2, s3, s4, s5, s6, s7, s8, s9⟩ := hSw
            go_simp
            try with_reducible rfl
          simp only [Act.put, List.getElem_toArray, List.getElem_cons_succ, List.getElem_cons_zero, List.setIfInBounds_toArray, List.set_cons_zero, List.set_cons_succ]
          clear hS1 cgd HFd
          refine Rt.C_ready (rs := [8]) (by kernel_rfl) (by simp) ?_
          refine Rt.AllC.cons (i := 8) (o := _) rfl (by rfl) (fun K' hK => ?_) ?_
          · skip
            go_simp
            refine (HBE.out mv nb wr.drew HN10.out HM2.out).mono ?_
            rintro e8 w8 ⟨rfl, hb8⟩
            have HB8 : Hid (Below wr.heap.size wr w8) := Lib.hid (hdr.trans (hb8.mono hdr.size))
            clear hb8 hdr
            have HF8 := Lib.hid (HF1.out.keep HB8.out HF1.out.lt)
            have cg8 := (HB8.out.cell (p := ⟨ab, ao + i, none⟩) hab1).trans cg
            rw [← hbv]
            go_simp
            have hS2 : ∀ o, Sc2 (fun w2 => w2.cell? ⟨fb, 0, none⟩ = some (.int .i64 K) ∧ w2.cell? ⟨fb, 1, none⟩ = some (.int .i64 B) ∧ w2.cell? ⟨fb, 2, none⟩ = some (.int .i64 S) ∧ w2.cell? ⟨fb, 3, none⟩ = some (.int .i64 st) ∧ w2.cell? ⟨fb, 4, none⟩ = some (.int .i64 ra) ∧ w2.cell? ⟨fb, 5, none⟩ = some (.slice ta tn tc) ∧ w2.cell? ⟨fb, 6, none⟩ = some (.string tu) ∧ w2.cell? ⟨fb, 7, none⟩ = some (.int .i64 W) ∧ w2.cell? ⟨fb, 9, none⟩ = some (.slice (some ⟨ab, ao, none⟩) n c) ∧ w2.cell? ⟨ab, ao + i, none⟩ = some (.int .i64 (v : Nat))) (fun w2 => True) 999 o w8 := Sc2.of ⟨HF8.out.cell 0, HF8.out.cell 1, HF8.out.cell 2, HF8.out.cell 3, HF8.out.cell 4, HF8.out.cell 5, HF8.out.cell 6, HF8.out.cell 7, HF8.out.cell 9, cg8⟩ trivial
            refine hK _ _ (fun o' _ => hS2 o') ?_
            clear hK K'
            simp only [Act.put, List.getElem_toArray, List.getElem_cons_succ, List.getElem_cons_zero, List.setIfInBounds_toArray, List.set_cons_zero, List.set_cons_succ]
            refine Rt.C_take (none) (i := 25) (oi := _) (v := ?_) rfl (by kernel_rfl) (by kernel_rfl) (by kernel_rfl) (by kernel_rfl) (fun _ _ _ h => h) (Sc2.other (by decide)) (Or.inl ⟨by rfl, ?_⟩) (fun o' _ => hS2 o') ?_
            rotate_left
            · intro w2 hSw
              obtain ⟨s0, s1, s2, s3, s4, s5, s6, s7, s8, s9⟩ := hSw
              go_simp
              try with_reducible rfl
            simp only [Act.put, List.getElem_toArray, List.getElem_cons_succ, List.getElem_cons_zero, List.setIfInBounds_toArray, List.set_cons_zero, List.set_cons_succ]
            refine Rt.C_done (by kernel_rfl) ?_ _
            refine NoPanic.normal ?_
            clear hS2 cg8 cg
            have hq1 : ((bv : Int) == (v : Int)) = !q := by rw [hq, bne, Bool.not_not]
            have hq2 := hq.symm
            clear hq
            have HB9 := Lib.hid (HB.out.trans (HB8.out.mono HB.out.size))
            have HZ9 := Lib.hid (HZ1.out.keep HB8.out)
            clear HB8 HB
            cases q
            · have hq1 : ((bv : Int) == (v : Int)) = true := hq1
              have HC1 : Hid (∀ x', x' < x + 1 → bec B S (rb wd x2 (x' + 1)) (nineR wd x1 x2 x3 x' - rb wd x2 (x' + 1)) = f x' row) := Lib.hid (fun x' hx' => by
                rcases Nat.lt_or_eq_of_le (Nat.le_of_lt_succ hx') with h | rfl
                · exact HC.out x' h
                · exact (HQV.out).1 (by first | rfl | trivial))
              have hxw := HXW.out
              have hw5 := HW5.out
              go_wp2_with fail
              go_roundw
              case rel => exact ⟨x + 1, HXW.out, by go_num, HC1.out, HF8.out, HZ9.out, HB9.out⟩
              case measure => have := HXW.out; simp [RowKit.intOf]; omega
            · have hq1 : ((bv : Int) == (v : Int)) = false := hq1
              go_wp2_with fail
              go_ret
              exact ⟨.inr ⟨rfl, fun h => absurd (h x HXW.out) ((HQV.out).2 (by first | rfl | trivial))⟩, HB9.out⟩
          exact Rt.AllC.nil
    · obtain rfl : x = W := by omega
      have hne : ¬ (x : Int) < (x : Int) := by omega
      go_wp2_with fail
      go_ret
      exact ⟨.inl ⟨rfl, HC.out⟩, HB.out⟩
end Pn
end Go.Proofs.YthipeeagpllfeaaDoor
