/- WALK: plane.finder's find. -/
import Derived.Test.YthipeeagpllfeaaDoorPpMp
namespace Go.Proofs.YthipeeagpllfeaaDoor
set_option linter.unusedSimpArgs false
set_option linter.unusedVariables false
open Go.RowKit
namespace Pn
open Tld Mem Bl

theorem infoArr3 : (Tryd.prog.info? 64).map (·.size) = some 3 := by kernel_rfl
/-- The rows that a number's digits are. -/
def rws (Q : Nat) : Nat → Nat → List Int
  | 0, _ => []
  | k + 1, s => ((s / Q ^ k : Nat) : Int) :: rws Q k (s % Q ^ k)
theorem rws_next {Q k cc s : Nat} (hs : s < Q ^ k) : rws Q (k + 1) (cc * Q ^ k + s) = [(cc : Int)] ++ rws Q k s := by
  show _ :: _ = _
  rw [(dm hs).1, (dm hs).2]
  rfl
/-- How often may be written down what nothing comes of. -/
def wrt (Q : Nat) : Nat → Nat
  | 0 => 0
  | k + 1 => Q * wrt Q k + 1
def badF (mk : Nat → Nat → Nat → Nat → Prop) (Q H i a b : Nat) : Prop := RowF mk Q (H + 2 - i) i a b none
theorem cnt_next (x c t : Nat) : x + c * t ≤ x + (c + 1) * t := by rw [Nat.add_mul]; omega
theorem cnt_eq (x c t : Nat) : x + c * t + t = x + (c + 1) * t := by rw [Nat.add_mul]; omega
theorem shl_nums {Q wd W : Nat} (hQ : Q = 2 ^ wd) (hwd : wd = W + 2) (hW : W ≤ 5) : wrap64 ((2 : Int) ^ wd) = (Q : Int) ∧ IntKind.i64.wrap ((2 : Int) ^ wd) = (Q : Int) ∧ min wd 64 = wd ∧ (wd : Int) ≤ 64 := by
  have h : ∀ n : Fin 8, wrap64 ((2 : Int) ^ n.val) = ((2 ^ n.val : Nat) : Int) ∧ IntKind.i64.wrap ((2 : Int) ^ n.val) = ((2 ^ n.val : Nat) : Int) := by decide +kernel
  have h2 := h ⟨wd, by omega⟩
  rw [hQ]
  exact ⟨h2.1, h2.2, Nat.min_eq_left (by omega), by omega⟩
theorem q_le7 {Q wd W : Nat} (hQ : Q = 2 ^ wd) (hwd : wd = W + 2) (hW : W ≤ 5) : Q ≤ 128 := by
  rw [hQ]
  exact Nat.pow_le_pow_right (by decide) (by omega : wd ≤ 7)
theorem get_last {rl : List Int} {i : Nat} (h : rl.length = i) (hi : 2 ≤ i) (c : Int) : (rl ++ [c])[i + 1 - 2]? = rl[i - 1]? ∧ (rl ++ [c])[i + 1 - 1]? = some c := by
  constructor
  · rw [List.getElem?_append_left (by omega)]
    rfl
  · rw [List.getElem?_append_right (by omega), show i + 1 - 1 - rl.length = 0 by omega]
    rfl

/-- What find hands back. -/
def FindP (mk : Nat → Nat → Nat → Nat → Prop) (bad : Nat → Nat → Nat → Prop) (Q H mb k i x2 x3 cnt : Nat) (rl : List Int) (w : World) (e : Ending) (w' : World) : Prop :=
  ((e = .returned (.slice none 0 0) ∧ RowF mk Q k i x2 x3 none) ∨ (∃ b o co s, e = .returned (.slice (some ⟨b, o, none⟩) (H + 2) co) ∧ RowF mk Q k i x2 x3 (some s) ∧ Ints.Is w' (some ⟨b, o, none⟩) (H + 2) (rl ++ rws Q k s))) ∧ MapOK w' mb cnt bad ∧ w.grownBy w' (some mb)
theorem FindP.no {mk : Nat → Nat → Nat → Nat → Prop} {bad : Nat → Nat → Nat → Prop} {Q H mb k i x2 x3 cnt : Nat} {rl : List Int} {w : World} {e : Ending} {w' : World} (he : e = .returned (.slice none 0 0)) (h : RowF mk Q k i x2 x3 none) (hm : MapOK w' mb cnt bad) (hg : w.grownBy w' (some mb)) : FindP mk bad Q H mb k i x2 x3 cnt rl w e w' := ⟨.inl ⟨he, h⟩, hm, hg⟩
theorem FindP.yes {mk : Nat → Nat → Nat → Nat → Prop} {bad : Nat → Nat → Nat → Prop} {Q H mb k i x2 x3 cnt : Nat} {rl : List Int} {w : World} {e : Ending} {w' : World} {b o co s : Nat} (he : e = .returned (.slice (some ⟨b, o, none⟩) (H + 2) co)) (h : RowF mk Q k i x2 x3 (some s)) (hi : Ints.Is w' (some ⟨b, o, none⟩) (H + 2) (rl ++ rws Q k s)) (hm : MapOK w' mb cnt bad) (hg : w.grownBy w' (some mb)) : FindP mk bad Q H mb k i x2 x3 cnt rl w e w' := ⟨.inr ⟨b, o, co, s, he, h, hi⟩, hm, hg⟩

set_option maxHeartbeats 16000000 in
set_option maxRecDepth 1000000 in
theorem find_any (K st ra : Int) (B S : Nat) (ta : Option Addr) (tn tc : Nat) (tu : ByteArray) (W H : Nat) (a : Option Addr) (n c : Nat) (f : Nat → Nat → Nat) (fb mb wd Q : Nat) (hBS : B < 512) (hSS : S < 512) (hwd : wd = W + 2) (hQ : Q = 2 ^ wd) (hn : n = W * H) (hW : W ≤ 5) (hH : H ≤ 5) :
    ∀ (k i : Nat) (sa : Option Addr) (sc : Nat) (rl : List Int) (x2 x3 cnt : Nat) (w : World), i + k = H + 2 → 2 ≤ i → Ints.Is w sa i rl → rl[i - 2]? = some (x2 : Int) → rl[i - 1]? = some (x3 : Int) → x2 < Q → x3 < Q → Row w fb 51 (finP K B S st ra ta tn tc tu W H a n c wd (.map (some mb))) → Ints.Is w a n (flat W H f) → MapOK w mb cnt (badF (mkI B S f wd W) Q H) → cnt + wrt Q k ≤ 1000000000000000000 →
    Calls Tryd.prog 17 #[.pointer (some ⟨fb, 0, none⟩), .slice sa i sc] w fun e w' => FindP (mkI B S f wd W) (badF (mkI B S f wd W) Q H) Q H mb k i x2 x3 (cnt + wrt Q k) rl w e w' := by
  obtain ⟨i0, hI0, hz0, hz1, hz2⟩ := info_parts infoIntV
  have HI0 := Lib.hid hI0
  have HZ0 := Lib.hid hz0
  have HZ1 := Lib.hid hz1
  have HZ2 := Lib.hid hz2
  have HQ := Lib.hid hQ
  have HWD := Lib.hid hwd
  have HW5 := Lib.hid hW
  have HH5 := Lib.hid hH
  have HQ8 := Lib.hid (q_le7 hQ hwd hW)
  have HMK0 := Lib.hid (fun (x2 x3 cc row : Nat) w2 hF hZ hrow h1 h2 h3 => makes_any K st ra B S ta tn tc tu W H a n c f (.map (some mb)) fb wd x2 x3 cc row w2 hBS hSS hwd hF hZ hn hW hH hrow h1 h2 h3)
  obtain ⟨h2, hh2⟩ : ∃ h2, h2 = H + 2 := ⟨_, rfl⟩
  have HH2 : Hid (h2 = H + 2 ∧ h2 ≤ 7) := Lib.hid (by omega)
  have aH : wrap64 ((H : Int) + 2) = (h2 : Int) := wr_nat (by omega) (by omega)
  have aH' := wr_same aH
  clear hI0 hz0 hz1 hz2 hBS hSS hwd hQ hn hW hH hh2
  intro k
  induction k with
  | zero =>
    intro i sa sc rl x2 x3 cnt w hk hi hR hx2 hx3 hq2 hq3 hF hZ hM hcap
    have HR := Lib.hid hR
    have HM := Lib.hid hM
    obtain ⟨rblk, ro, rfl, hrl, _⟩ := hR.cells 0 (by omega)
    obtain rfl : i = h2 := by have := HH2.out; omega
    have HE : Hid (i = H + 2) := Lib.hid HH2.out.1
    have q8 := hF.cell 8
    unfold finP at q8
    dsimp only [List.getElem?_cons_succ, List.getElem?_cons_zero] at q8
    clear hk hi hR hx2 hx3 hq2 hq3 hF hZ hM hcap hrl
    go_enter Tryd.func17, Tryd.ntmps17
    go_wp2_with fail
    go_ret
    exact FindP.yes (b := rblk) (o := ro) (co := sc) (s := 0) (by rw [← HE.out]; rfl) rowF_end (by rw [← HE.out]; show Ints.Is _ _ _ (rl ++ []); rw [List.append_nil]; exact HR.out) (HM.out.mono (Nat.le_add_right _ _)) (World.grownBy.refl _ _)
  | succ k ih =>
    intro i sa sc rl x2 x3 cnt w hk hi hR hx2 hx3 hq2 hq3 hF hZ hM hcap
    have HIH := Lib.hid (fun (i : Nat) (sa : Option Addr) (sc : Nat) (rl : List Int) (x2 x3 cnt : Nat) (w : World) (hik : (i + k = H + 2 ∧ 2 ≤ i) ∧ x2 < Q) h3 h4 h5 h7 h8 h9 h10 h11 => ih i sa sc rl x2 x3 cnt w hik.1.1 hik.1.2 h3 h4 h5 hik.2 h7 h8 h9 h10 h11)
    have HIK : Hid ((i + 1 + k = H + 2 ∧ 2 ≤ i + 1) ∧ x3 < Q) := Lib.hid ⟨⟨by omega, by omega⟩, hq3⟩
    have HRX := Lib.hid hx3
    have hlen : rl.length = i := hR.len
    have HNX : Hid (∀ cc : Nat, (rl ++ [(cc : Int)])[i + 1 - 2]? = some (x3 : Int) ∧ (rl ++ [(cc : Int)])[i + 1 - 1]? = some (cc : Int)) := Lib.hid (fun cc => by have h := get_last hlen hi (cc : Int); rw [hx3] at h; exact h)
    have HCAP : Hid (∀ cc, cc < Q → cnt + cc * wrt Q k + wrt Q k ≤ 1000000000000000000) := Lib.hid (fun cc hcc => by
      have h1 := Nat.mul_le_mul_right (wrt Q k) (show cc + 1 ≤ Q by omega)
      rw [cnt_eq]
      have h2 : wrt Q (k + 1) = Q * wrt Q k + 1 := rfl
      omega)
    have HCM : Hid (∀ cc, cc < Q → cnt + (cc + 1) * wrt Q k ≤ cnt + wrt Q (k + 1)) := Lib.hid (fun cc hcc => by
      have h1 := Nat.mul_le_mul_right (wrt Q k) (show cc + 1 ≤ Q by omega)
      have h2 : wrt Q (k + 1) = Q * wrt Q k + 1 := rfl
      omega)
    have HCX : Hid (cnt + Q * wrt Q k < maxLen) := Lib.hid (by
      have h2 : wrt Q (k + 1) = Q * wrt Q k + 1 := rfl
      unfold maxLen
      omega)
    have HBK : Hid (badF (mkI B S f wd W) Q H i x2 x3 → RowF (mkI B S f wd W) Q (k + 1) i x2 x3 none) := Lib.hid (fun h => by
      unfold badF at h
      rw [show H + 2 - i = k + 1 by omega] at h
      exact h)
    have HKB : Hid (RowF (mkI B S f wd W) Q (k + 1) i x2 x3 none → badF (mkI B S f wd W) Q H i x2 x3) := Lib.hid (fun h => by
      unfold badF
      rw [show H + 2 - i = k + 1 by omega]
      exact h)
    have hq8 := HQ8.out
    have hhh := HH2.out
    have HIB : Hid (i ≤ 1000000) := Lib.hid (by omega)
    have HXB : Hid (x2 ≤ 1000000 ∧ x3 ≤ 1000000) := Lib.hid ⟨by omega, by omega⟩
    have HI2 : Hid (2 ≤ i) := Lib.hid hi
    have HI7 : Hid (i + 1 ≤ maxLen ∧ (i + 1) * 8 ≤ 140737488355328) := Lib.hid ⟨by unfold maxLen; omega, by omega⟩
    obtain ⟨i2, hi2⟩ : ∃ i2, i2 = i - 2 := ⟨_, rfl⟩
    obtain ⟨i1, hi1⟩ : ∃ i1, i1 = i - 1 := ⟨_, rfl⟩
    have HI2V : Hid (i - 2 = i2) := Lib.hid hi2.symm
    have HMK := Lib.hid (fun (cc : Nat) w2 hF hZ (hcc : cc < Q) => HMK0.out x2 x3 cc i2 w2 hF hZ (by omega) (by omega) (by omega) (by omega))
    have HCL := Lib.hid (fun w2 (h : Ints.Is w2 sa i rl) => clone_any sa i sc rl w2 hlen (by omega) h.cells (fun e => by
      obtain ⟨b', o', e', _⟩ := h.cells 0 (by omega)
      rw [e] at e'; cases e'))
    obtain ⟨rblk, ro, rfl, hrl, c2⟩ := hR.cells i2 (by omega)
    obtain ⟨rblk', ro', he', _, c3⟩ := hR.cells i1 (by omega)
    cases he'
    have g2 : rl.getD i2 0 = (x2 : Int) := by rw [List.getD_eq_getElem?_getD, hi2, hx2]; rfl
    have g3 : rl.getD i1 0 = (x3 : Int) := by rw [List.getD_eq_getElem?_getD, hi1, hx3]; rfl
    dsimp only at c2 c3 hrl
    rw [g2] at c2
    rw [g3] at c3
    have HRC : Hid (∀ w2 : World, Ints.Is w2 (some ⟨rblk, ro, none⟩) i rl → w2.cell? ⟨rblk, ro + i2, none⟩ = some (.int .i64 (x2 : Nat)) ∧ w2.cell? ⟨rblk, ro + i1, none⟩ = some (.int .i64 (x3 : Nat)) ∧ rblk < w2.heap.size) := Lib.hid (fun w2 h => by
      obtain ⟨b2, o2, e2, hl2, d2⟩ := h.cells i2 (by omega)
      obtain ⟨b3, o3, e3, hl3, d3⟩ := h.cells i1 (by omega)
      cases e2
      cases e3
      dsimp only at d2 d3 hl2
      rw [g2] at d2
      rw [g3] at d3
      exact ⟨d2, d3, hl2⟩)
    have a1 : wrap64 ((i : Int) - 1) = (i1 : Int) := wr_nat (by omega) (by omega)
    have a2 : wrap64 ((i : Int) - 2) = (i2 : Int) := wr_nat (by omega) (by omega)
    have HF := Lib.hid hF
    have HZ := Lib.hid hZ
    have HR := Lib.hid hR
    have HM := Lib.hid hM
    have l1 : (i1 : Int) < (i : Int) := Int.ofNat_lt.2 (by clear a1 a2 aH aH'; omega)
    have l2 : (i2 : Int) < (i : Int) := Int.ofNat_lt.2 (by clear a1 a2 aH aH'; omega)
    have ne0 : ((i : Int) == (h2 : Int)) = false := beq_eq_false_iff_ne.2 (by clear a1 a2 aH aH'; omega)
    have a1' := wr_same a1
    have a2' := wr_same a2
    have qT : ∀ (w : World) (a : Option Addr) (n c n' c' : Nat), (binOp .neq 22 (.slice a n c) (.slice none n' c')).run Tryd.prog w = .ok (.bool (!a.isNone)) w := fun w a n c n' c' => run_neq_slice_nil_any w _ _ a n c n' c' Tryd.underlying22
    have q8 := HF.out.cell 8
    unfold finP at q8
    dsimp only [List.getElem?_cons_succ, List.getElem?_cons_zero] at q8
    clear ih hk hi hR hx2 hx3 hq2 hq3 hF hZ hM hcap hlen hq8 hhh hi2 hi1 g2 g3 HMK0
    go_enter Tryd.func17, Tryd.ntmps17
    go_upto_region 4 with fail
    clear q8 aH aH' ne0
    have hdr : Below w.heap.size w w.drew := (Below.refl _ _).drew
    refine wp_region_noPanic ?_
    refine Rt.region_Cn (Sc2 (fun w2 => w2.cell? ⟨rblk, ro + i2, none⟩ = some (.int .i64 (x2 : Nat)) ∧ w2.cell? ⟨rblk, ro + i1, none⟩ = some (.int .i64 (x3 : Nat))) (fun w2 => True) 999) 14 #[false, false, false, false, false, false, false, false, false, false, false, false, false, false] (by kernel_rfl) (by kernel_rfl) (by kernel_rfl) ?_
    have hS1 : ∀ o, Sc2 (fun w2 => w2.cell? ⟨rblk, ro + i2, none⟩ = some (.int .i64 (x2 : Nat)) ∧ w2.cell? ⟨rblk, ro + i1, none⟩ = some (.int .i64 (x3 : Nat))) (fun w2 => True) 999 o w.drew := Sc2.of ⟨(hdr.cell (p := ⟨rblk, ro + i2, none⟩) hrl).trans c2, (hdr.cell (p := ⟨rblk, ro + i1, none⟩) hrl).trans c3⟩ trivial
    refine Rt.C_take (none) (i := 0) (oi := _) (v := ?_) rfl (by kernel_rfl) (by kernel_rfl) (by kernel_rfl) (by kernel_rfl) (fun _ _ _ h => h) (Sc2.other (by decide)) (Or.inl ⟨by rfl, ?_⟩) (fun o' _ => hS1 o') ?_
    rotate_left
    · intro w2 hSw
      obtain ⟨s0, s1⟩ := hSw
      go_simp
      try with_reducible rfl
    simp only [Act.put, List.getElem_toArray, List.getElem_cons_succ, List.getElem_cons_zero, List.setIfInBounds_toArray, List.set_cons_zero, List.set_cons_succ]
    refine Rt.C_take (none) (i := 1) (oi := _) (v := ?_) rfl (by kernel_rfl) (by kernel_rfl) (by kernel_rfl) (by kernel_rfl) (fun _ _ _ h => h) (Sc2.other (by decide)) (Or.inl ⟨by rfl, ?_⟩) (fun o' _ => hS1 o') ?_
    rotate_left
    · intro w2 hSw
      obtain ⟨s0, s1⟩ := hSw
      go_simp
      try with_reducible rfl
    simp only [Act.put, List.getElem_toArray, List.getElem_cons_succ, List.getElem_cons_zero, List.setIfInBounds_toArray, List.set_cons_zero, List.set_cons_succ]
    refine Rt.C_take (none) (i := 2) (oi := _) (v := ?_) rfl (by kernel_rfl) (by kernel_rfl) (by kernel_rfl) (by kernel_rfl) (fun _ _ _ h => h) (Sc2.other (by decide)) (Or.inl ⟨by rfl, ?_⟩) (fun o' _ => hS1 o') ?_
    rotate_left
    · intro w2 hSw
      obtain ⟨s0, s1⟩ := hSw
      go_simp
      try with_reducible rfl
    simp only [Act.put, List.getElem_toArray, List.getElem_cons_succ, List.getElem_cons_zero, List.setIfInBounds_toArray, List.set_cons_zero, List.set_cons_succ]
    refine Rt.C_take (none) (i := 3) (oi := _) (v := ?_) rfl (by kernel_rfl) (by kernel_rfl) (by kernel_rfl) (by kernel_rfl) (fun _ _ _ h => h) (Sc2.other (by decide)) (Or.inl ⟨by rfl, ?_⟩) (fun o' _ => hS1 o') ?_
    rotate_left
    · intro w2 hSw
      obtain ⟨s0, s1⟩ := hSw
      go_simp
      try with_reducible rfl
    simp only [Act.put, List.getElem_toArray, List.getElem_cons_succ, List.getElem_cons_zero, List.setIfInBounds_toArray, List.set_cons_zero, List.set_cons_succ]
    refine Rt.C_take (none) (i := 4) (oi := _) (v := ?_) rfl (by kernel_rfl) (by kernel_rfl) (by kernel_rfl) (by kernel_rfl) (fun _ _ _ h => h) (Sc2.other (by decide)) (Or.inl ⟨by rfl, ?_⟩) (fun o' _ => hS1 o') ?_
    rotate_left
    · intro w2 hSw
      obtain ⟨s0, s1⟩ := hSw
      go_simp
      try with_reducible rfl
    simp only [Act.put, List.getElem_toArray, List.getElem_cons_succ, List.getElem_cons_zero, List.setIfInBounds_toArray, List.set_cons_zero, List.set_cons_succ]
    refine Rt.C_take (none) (i := 5) (oi := _) (v := ?_) rfl (by kernel_rfl) (by kernel_rfl) (by kernel_rfl) (by kernel_rfl) (fun _ _ _ h => h) (Sc2.other (by decide)) (Or.inl ⟨by rfl, ?_⟩) (fun o' _ => hS1 o') ?_
    rotate_left
    · intro w2 hSw
      obtain ⟨s0, s1⟩ := hSw
      go_simp
      try with_reducible rfl
    simp only [Act.put, List.getElem_toArray, List.getElem_cons_succ, List.getElem_cons_zero, List.setIfInBounds_toArray, List.set_cons_zero, List.set_cons_succ]
    refine Rt.C_take (none) (i := 6) (oi := _) (v := ?_) rfl (by kernel_rfl) (by kernel_rfl) (by kernel_rfl) (by kernel_rfl) (fun _ _ _ h => h) (Sc2.other (by decide)) (Or.inl ⟨by rfl, ?_⟩) (fun o' _ => hS1 o') ?_
    rotate_left
    · intro w2 hSw
      obtain ⟨s0, s1⟩ := hSw
      go_simp
      try with_reducible rfl
    simp only [Act.put, List.getElem_toArray, List.getElem_cons_succ, List.getElem_cons_zero, List.setIfInBounds_toArray, List.set_cons_zero, List.set_cons_succ]
    refine Rt.C_take (none) (i := 7) (oi := _) (v := ?_) rfl (by kernel_rfl) (by kernel_rfl) (by kernel_rfl) (by kernel_rfl) (fun _ _ _ h => h) (Sc2.other (by decide)) (Or.inl ⟨by rfl, ?_⟩) (fun o' _ => hS1 o') ?_
    rotate_left
    · intro w2 hSw
      obtain ⟨s0, s1⟩ := hSw
      go_simp
      try with_reducible rfl
    simp only [Act.put, List.getElem_toArray, List.getElem_cons_succ, List.getElem_cons_zero, List.setIfInBounds_toArray, List.set_cons_zero, List.set_cons_succ]
    refine Rt.C_take (none) (i := 8) (oi := _) (v := ?_) rfl (by kernel_rfl) (by kernel_rfl) (by kernel_rfl) (by kernel_rfl) (fun _ _ _ h => h) (Sc2.other (by decide)) (Or.inl ⟨by rfl, ?_⟩) (fun o' _ => hS1 o') ?_
    rotate_left
    · intro w2 hSw
      obtain ⟨s0, s1⟩ := hSw
      go_simp
      try with_reducible rfl
    simp only [Act.put, List.getElem_toArray, List.getElem_cons_succ, List.getElem_cons_zero, List.setIfInBounds_toArray, List.set_cons_zero, List.set_cons_succ]
    refine Rt.C_take (none) (i := 9) (oi := _) (v := ?_) rfl (by kernel_rfl) (by kernel_rfl) (by kernel_rfl) (by kernel_rfl) (fun _ _ _ h => h) (Sc2.other (by decide)) (Or.inl ⟨by rfl, ?_⟩) (fun o' _ => hS1 o') ?_
    rotate_left
    · intro w2 hSw
      obtain ⟨s0, s1⟩ := hSw
      go_simp
      try with_reducible rfl
    simp only [Act.put, List.getElem_toArray, List.getElem_cons_succ, List.getElem_cons_zero, List.setIfInBounds_toArray, List.set_cons_zero, List.set_cons_succ]
    refine Rt.C_take (none) (i := 10) (oi := _) (v := ?_) rfl (by kernel_rfl) (by kernel_rfl) (by kernel_rfl) (by kernel_rfl) (fun _ _ _ h => h) (Sc2.other (by decide)) (Or.inl ⟨by rfl, ?_⟩) (fun o' _ => hS1 o') ?_
    rotate_left
    · intro w2 hSw
      obtain ⟨s0, s1⟩ := hSw
      go_simp
      try with_reducible rfl
    simp only [Act.put, List.getElem_toArray, List.getElem_cons_succ, List.getElem_cons_zero, List.setIfInBounds_toArray, List.set_cons_zero, List.set_cons_succ]
    refine Rt.C_take (none) (i := 11) (oi := _) (v := ?_) rfl (by kernel_rfl) (by kernel_rfl) (by kernel_rfl) (by kernel_rfl) (fun _ _ _ h => h) (Sc2.other (by decide)) (Or.inl ⟨by rfl, ?_⟩) (fun o' _ => hS1 o') ?_
    rotate_left
    · intro w2 hSw
      obtain ⟨s0, s1⟩ := hSw
      go_simp
      try with_reducible rfl
    simp only [Act.put, List.getElem_toArray, List.getElem_cons_succ, List.getElem_cons_zero, List.setIfInBounds_toArray, List.set_cons_zero, List.set_cons_succ]
    clear hS1
    generalize w.drew = v0 at *
    have hrq : Row (v0.alloc (.cells #[.int .i64 0, .int .i64 0, .int .i64 0] 64)) v0.heap.size 64 [.int .i64 0, .int .i64 0, .int .i64 0] := row_alloc v0 _ _
    have hbq : Below w.heap.size w (v0.alloc (.cells #[.int .i64 0, .int .i64 0, .int .i64 0] 64)) := hdr.trans ((Below.refl _ _).alloc hdr.size _)
    have hks : w.heap.size ≤ v0.heap.size := hdr.size
    clear hdr
    refine Rt.C_ready (rs := [12]) (by kernel_rfl) (by simp) ?_
    refine Rt.AllC.cons (i := 12) (o := _) rfl (by rfl) (fun K' hK => ?_) ?_
    · skip
      go_simp
      refine hK _ _ (fun o' _ => Sc2.of ⟨(hbq.cell (p := ⟨rblk, ro + i2, none⟩) hrl).trans c2, (hbq.cell (p := ⟨rblk, ro + i1, none⟩) hrl).trans c3⟩ trivial o') ?_
      clear hK K'
      simp only [Act.put, List.getElem_toArray, List.getElem_cons_succ, List.getElem_cons_zero, List.setIfInBounds_toArray, List.set_cons_zero, List.set_cons_succ]
      generalize v0.alloc (.cells #[.int .i64 0, .int .i64 0, .int .i64 0] 64) = v1 at *
      generalize v0.heap.size = kb at *
      refine Rt.C_ready (rs := [13]) (by kernel_rfl) (by simp) ?_
      refine Rt.AllC.cons (i := 13) (o := _) rfl (by rfl) (fun K' hK => ?_) ?_
      · skip
        refine wp_store_arr 64 _ _ rfl kb (by rfl) 64 [.int .i64 0, .int .i64 0, .int .i64 0] [.int .i64 (i : Nat), .int .i64 (x2 : Nat), .int .i64 (x3 : Nat)] (by rfl) hrq rfl infoArr3 (by simp [Value.oneCell']) ?_
        intro w1 hr1 ho1
        have HB1 := Lib.hid (hbq.trans (ho1.below hks))
        have HKY := Lib.hid hr1
        clear hbq hrq ho1 hr1
        refine hK _ _ (fun o' _ => Sc2.of ⟨(HB1.out.cell (p := ⟨rblk, ro + i2, none⟩) hrl).trans c2, (HB1.out.cell (p := ⟨rblk, ro + i1, none⟩) hrl).trans c3⟩ trivial o') ?_
        clear hK K'
        simp only [Act.put, List.getElem_toArray, List.getElem_cons_succ, List.getElem_cons_zero, List.setIfInBounds_toArray, List.set_cons_zero, List.set_cons_succ]
        refine Rt.C_done (by kernel_rfl) ?_ _
        refine NoPanic.normal ?_
        have HKM : Hid (kb ≠ mb) := Lib.hid (by have := HM.out.lt; omega)
        have HFM : Hid (fb ≠ mb) := Lib.hid (HM.out.ne_row HF.out)
        have HZM := Lib.hid (HM.out.ne_is HZ.out)
        have HRM := Lib.hid (HM.out.ne_is HR.out)
        have HF := Lib.hid (HF.out.keep HB1.out HF.out.lt)
        have HZ := Lib.hid (HZ.out.keep HB1.out)
        have HR := Lib.hid (HR.out.keep HB1.out)
        have HM := Lib.hid (HM.out.below HB1.out)
        have HG : Hid (w.grownBy w1 (some mb)) := Lib.hid ((below_grown HB1.out).but _)
        clear HB1 c2 c3 hrl hks
        go_upto_region 5 with fail
        have hdr : Below w1.heap.size w1 w1.drew := (Below.refl _ _).drew
        have HF := Lib.hid (HF.out.keep hdr HF.out.lt)
        have HZ := Lib.hid (HZ.out.keep hdr)
        have HR := Lib.hid (HR.out.keep hdr)
        have HM := Lib.hid (HM.out.below hdr)
        have HKY := Lib.hid (HKY.out.keep hdr HKY.out.lt)
        have HG := Lib.hid (HG.out.trans ((below_grown hdr).but _))
        obtain ⟨q, hlook, hqb⟩ := HM.out.look HIB.out HXB.out.1 HXB.out.2
        unfold mky at hlook
        have HQB := Lib.hid hqb
        clear hqb hdr
        refine wp_region_noPanic ?_
        refine Rt.region_Cn (Sc2 (fun w2 => w2.cell? ⟨fb, 11, none⟩ = some (.map (some mb)) ∧ w2.cell? ⟨kb, 0, none⟩ = some (.int .i64 (i : Nat)) ∧ w2.cell? ⟨kb, 1, none⟩ = some (.int .i64 (x2 : Nat)) ∧ w2.cell? ⟨kb, 2, none⟩ = some (.int .i64 (x3 : Nat)) ∧ (Instr.lookup 49 (.map (some mb)) (.agg #[.int .i64 (i : Nat), .int .i64 (x2 : Nat), .int .i64 (x3 : Nat)]) false).run Tryd.prog w2 = .ok (.bool q) w2) (fun w2 => True) 999) 6 #[false, false, false, false, false, false] (by kernel_rfl) (by kernel_rfl) (by kernel_rfl) ?_
        have hS1 : ∀ o, Sc2 (fun w2 => w2.cell? ⟨fb, 11, none⟩ = some (.map (some mb)) ∧ w2.cell? ⟨kb, 0, none⟩ = some (.int .i64 (i : Nat)) ∧ w2.cell? ⟨kb, 1, none⟩ = some (.int .i64 (x2 : Nat)) ∧ w2.cell? ⟨kb, 2, none⟩ = some (.int .i64 (x3 : Nat)) ∧ (Instr.lookup 49 (.map (some mb)) (.agg #[.int .i64 (i : Nat), .int .i64 (x2 : Nat), .int .i64 (x3 : Nat)]) false).run Tryd.prog w2 = .ok (.bool q) w2) (fun w2 => True) 999 o w1.drew := Sc2.of ⟨HF.out.cell 11, HKY.out.cell 0, HKY.out.cell 1, HKY.out.cell 2, hlook⟩ trivial
        refine Rt.C_take (none) (i := 0) (oi := _) (v := ?_) rfl (by kernel_rfl) (by kernel_rfl) (by kernel_rfl) (by kernel_rfl) (fun _ _ _ h => h) (Sc2.other (by decide)) (Or.inl ⟨by rfl, ?_⟩) (fun o' _ => hS1 o') ?_
        rotate_left
        · intro w2 hSw
          obtain ⟨s0, s1, s2, s3, s4⟩ := hSw
          go_simp
          try with_reducible rfl
        simp only [Act.put, List.getElem_toArray, List.getElem_cons_succ, List.getElem_cons_zero, List.setIfInBounds_toArray, List.set_cons_zero, List.set_cons_succ]
        refine Rt.C_take (none) (i := 1) (oi := _) (v := ?_) rfl (by kernel_rfl) (by kernel_rfl) (by kernel_rfl) (by kernel_rfl) (fun _ _ _ h => h) (Sc2.other (by decide)) (Or.inl ⟨by rfl, ?_⟩) (fun o' _ => hS1 o') ?_
        rotate_left
        · intro w2 hSw
          obtain ⟨s0, s1, s2, s3, s4⟩ := hSw
          go_simp
          try with_reducible rfl
        simp only [Act.put, List.getElem_toArray, List.getElem_cons_succ, List.getElem_cons_zero, List.setIfInBounds_toArray, List.set_cons_zero, List.set_cons_succ]
        refine Rt.C_take (none) (i := 2) (oi := _) (v := ?_) rfl (by kernel_rfl) (by kernel_rfl) (by kernel_rfl) (by kernel_rfl) (fun _ _ _ h => h) (Sc2.other (by decide)) (Or.inl ⟨by rfl, ?_⟩) (fun o' _ => hS1 o') ?_
        rotate_left
        · intro w2 hSw
          obtain ⟨s0, s1, s2, s3, s4⟩ := hSw
          go_simp
          try with_reducible rfl
        simp only [Act.put, List.getElem_toArray, List.getElem_cons_succ, List.getElem_cons_zero, List.setIfInBounds_toArray, List.set_cons_zero, List.set_cons_succ]
        refine Rt.C_take (none) (i := 3) (oi := _) (v := ?_) rfl (by kernel_rfl) (by kernel_rfl) (by kernel_rfl) (by kernel_rfl) (fun _ _ _ h => h) (Sc2.other (by decide)) (Or.inl ⟨by rfl, ?_⟩) (fun o' _ => hS1 o') ?_
        rotate_left
        · intro w2 hSw
          obtain ⟨s0, s1, s2, s3, s4⟩ := hSw
          go_simp
          try with_reducible rfl
        simp only [Act.put, List.getElem_toArray, List.getElem_cons_succ, List.getElem_cons_zero, List.setIfInBounds_toArray, List.set_cons_zero, List.set_cons_succ]
        refine Rt.C_take (none) (i := 4) (oi := _) (v := ?_) rfl (by kernel_rfl) (by kernel_rfl) (by kernel_rfl) (by kernel_rfl) (fun _ _ _ h => h) (Sc2.other (by decide)) (Or.inl ⟨by rfl, ?_⟩) (fun o' _ => hS1 o') ?_
        rotate_left
        · intro w2 hSw
          obtain ⟨s0, s1, s2, s3, s4⟩ := hSw
          go_simp
          try with_reducible rfl
        simp only [Act.put, List.getElem_toArray, List.getElem_cons_succ, List.getElem_cons_zero, List.setIfInBounds_toArray, List.set_cons_zero, List.set_cons_succ]
        refine Rt.C_take (none) (i := 5) (oi := _) (v := ?_) rfl (by kernel_rfl) (by kernel_rfl) (by kernel_rfl) (by kernel_rfl) (fun _ _ _ h => h) (Sc2.other (by decide)) (Or.inl ⟨by rfl, ?_⟩) (fun o' _ => hS1 o') ?_
        rotate_left
        · intro w2 hSw
          obtain ⟨s0, s1, s2, s3, s4⟩ := hSw
          go_simp
          try with_reducible rfl
        simp only [Act.put, List.getElem_toArray, List.getElem_cons_succ, List.getElem_cons_zero, List.setIfInBounds_toArray, List.set_cons_zero, List.set_cons_succ]
        refine Rt.C_done (by kernel_rfl) ?_ _
        refine NoPanic.normal ?_
        clear hS1 hlook
        generalize w1.drew = w2 at *
        cases q
        · clear HQB HBK
          have q10 := HF.out.cell 10
          unfold finP at q10
          dsimp only [List.getElem?_cons_succ, List.getElem?_cons_zero] at q10
          obtain ⟨sh1, sh2, sh3, hw64⟩ := shl_nums HQ.out HWD.out HW5.out
          go_wp2_with fail
          clear q10 sh1 sh2 sh3 hw64
          go_loopw [43] (fun u wr => ∃ cc : Nat, cc ≤ Q ∧ u = .int .i64 (cc : Nat) ∧ (∀ c', c' < cc → (mkI B S f wd W) i x2 x3 c' → RowF (mkI B S f wd W) Q k (i + 1) x3 c' none) ∧ Row wr fb 51 (finP K B S st ra ta tn tc tu W H a n c wd (.map (some mb))) ∧ Ints.Is wr a n (flat W H f) ∧ Ints.Is wr (some ⟨rblk, ro, none⟩) i rl ∧ MapOK wr mb (cnt + cc * wrt Q k) (badF (mkI B S f wd W) Q H) ∧ Row wr kb 64 [.int .i64 (i : Nat), .int .i64 (x2 : Nat), .int .i64 (x3 : Nat)] ∧ w.grownBy wr (some mb)) (fun u _ => Q - (RowKit.intOf u).toNat)
          case atStart => exact ⟨0, Nat.zero_le _, rfl, fun c' h => absurd h (Nat.not_lt_zero _), HF.out, HZ.out, HR.out, by rw [Nat.zero_mul, Nat.add_zero]; exact HM.out, HKY.out, HG.out⟩
          case round =>
            clear HF HZ HR HM HKY HG
            obtain ⟨cc, hcc, rfl, hc, hF, hZ, hR, hM, hKy, hG⟩ := hrel
            have HC := Lib.hid hc
            have HF := Lib.hid hF
            have HZ := Lib.hid hZ
            have HR := Lib.hid hR
            have HM := Lib.hid hM
            have HKY := Lib.hid hKy
            have HG := Lib.hid hG
            clear hc hF hZ hR hM hKy hG
            by_cases hcq : cc < Q
            · have hci : (cc : Int) < (Q : Int) := by omega
              have HCQ := Lib.hid hcq
              obtain ⟨c2, c3, hrl⟩ := HRC.out _ HR.out
              clear hcq hcc
              go_upto_region 10 with fail
              have hdr : Below wr.heap.size wr wr.drew := (Below.refl _ _).drew
              refine wp_region_noPanic ?_
              refine Rt.region_Cn (Sc2 (fun w2 => w2.cell? ⟨rblk, ro + i2, none⟩ = some (.int .i64 (x2 : Nat)) ∧ w2.cell? ⟨rblk, ro + i1, none⟩ = some (.int .i64 (x3 : Nat))) (fun w2 => True) 999) 15 #[false, false, false, false, false, false, false, false, false, false, false, false, false, false, false] (by kernel_rfl) (by kernel_rfl) (by kernel_rfl) ?_
              have hS1 : ∀ o, Sc2 (fun w2 => w2.cell? ⟨rblk, ro + i2, none⟩ = some (.int .i64 (x2 : Nat)) ∧ w2.cell? ⟨rblk, ro + i1, none⟩ = some (.int .i64 (x3 : Nat))) (fun w2 => True) 999 o wr.drew := Sc2.of ⟨(hdr.cell (p := ⟨rblk, ro + i2, none⟩) hrl).trans c2, (hdr.cell (p := ⟨rblk, ro + i1, none⟩) hrl).trans c3⟩ trivial
              refine Rt.C_take (none) (i := 0) (oi := _) (v := ?_) rfl (by kernel_rfl) (by kernel_rfl) (by kernel_rfl) (by kernel_rfl) (fun _ _ _ h => h) (Sc2.other (by decide)) (Or.inl ⟨by rfl, ?_⟩) (fun o' _ => hS1 o') ?_
              rotate_left
              · intro w2 hSw
                obtain ⟨s0, s1⟩ := hSw
                go_simp
                try with_reducible rfl
              simp only [Act.put, List.getElem_toArray, List.getElem_cons_succ, List.getElem_cons_zero, List.setIfInBounds_toArray, List.set_cons_zero, List.set_cons_succ]
              refine Rt.C_take (none) (i := 1) (oi := _) (v := ?_) rfl (by kernel_rfl) (by kernel_rfl) (by kernel_rfl) (by kernel_rfl) (fun _ _ _ h => h) (Sc2.other (by decide)) (Or.inl ⟨by rfl, ?_⟩) (fun o' _ => hS1 o') ?_
              rotate_left
              · intro w2 hSw
                obtain ⟨s0, s1⟩ := hSw
                go_simp
                try with_reducible rfl
              simp only [Act.put, List.getElem_toArray, List.getElem_cons_succ, List.getElem_cons_zero, List.setIfInBounds_toArray, List.set_cons_zero, List.set_cons_succ]
              refine Rt.C_take (none) (i := 2) (oi := _) (v := ?_) rfl (by kernel_rfl) (by kernel_rfl) (by kernel_rfl) (by kernel_rfl) (fun _ _ _ h => h) (Sc2.other (by decide)) (Or.inl ⟨by rfl, ?_⟩) (fun o' _ => hS1 o') ?_
              rotate_left
              · intro w2 hSw
                obtain ⟨s0, s1⟩ := hSw
                go_simp
                try with_reducible rfl
              simp only [Act.put, List.getElem_toArray, List.getElem_cons_succ, List.getElem_cons_zero, List.setIfInBounds_toArray, List.set_cons_zero, List.set_cons_succ]
              refine Rt.C_take (none) (i := 3) (oi := _) (v := ?_) rfl (by kernel_rfl) (by kernel_rfl) (by kernel_rfl) (by kernel_rfl) (fun _ _ _ h => h) (Sc2.other (by decide)) (Or.inl ⟨by rfl, ?_⟩) (fun o' _ => hS1 o') ?_
              rotate_left
              · intro w2 hSw
                obtain ⟨s0, s1⟩ := hSw
                go_simp
                try with_reducible rfl
              simp only [Act.put, List.getElem_toArray, List.getElem_cons_succ, List.getElem_cons_zero, List.setIfInBounds_toArray, List.set_cons_zero, List.set_cons_succ]
              refine Rt.C_take (none) (i := 4) (oi := _) (v := ?_) rfl (by kernel_rfl) (by kernel_rfl) (by kernel_rfl) (by kernel_rfl) (fun _ _ _ h => h) (Sc2.other (by decide)) (Or.inl ⟨by rfl, ?_⟩) (fun o' _ => hS1 o') ?_
              rotate_left
              · intro w2 hSw
                obtain ⟨s0, s1⟩ := hSw
                go_simp
                try with_reducible rfl
              simp only [Act.put, List.getElem_toArray, List.getElem_cons_succ, List.getElem_cons_zero, List.setIfInBounds_toArray, List.set_cons_zero, List.set_cons_succ]
              refine Rt.C_take (none) (i := 5) (oi := _) (v := ?_) rfl (by kernel_rfl) (by kernel_rfl) (by kernel_rfl) (by kernel_rfl) (fun _ _ _ h => h) (Sc2.other (by decide)) (Or.inl ⟨by rfl, ?_⟩) (fun o' _ => hS1 o') ?_
              rotate_left
              · intro w2 hSw
                obtain ⟨s0, s1⟩ := hSw
                go_simp
                try with_reducible rfl
              simp only [Act.put, List.getElem_toArray, List.getElem_cons_succ, List.getElem_cons_zero, List.setIfInBounds_toArray, List.set_cons_zero, List.set_cons_succ]
              refine Rt.C_take (none) (i := 6) (oi := _) (v := ?_) rfl (by kernel_rfl) (by kernel_rfl) (by kernel_rfl) (by kernel_rfl) (fun _ _ _ h => h) (Sc2.other (by decide)) (Or.inl ⟨by rfl, ?_⟩) (fun o' _ => hS1 o') ?_
              rotate_left
              · intro w2 hSw
                obtain ⟨s0, s1⟩ := hSw
                go_simp
                try with_reducible rfl
              simp only [Act.put, List.getElem_toArray, List.getElem_cons_succ, List.getElem_cons_zero, List.setIfInBounds_toArray, List.set_cons_zero, List.set_cons_succ]
              refine Rt.C_take (none) (i := 7) (oi := _) (v := ?_) rfl (by kernel_rfl) (by kernel_rfl) (by kernel_rfl) (by kernel_rfl) (fun _ _ _ h => h) (Sc2.other (by decide)) (Or.inl ⟨by rfl, ?_⟩) (fun o' _ => hS1 o') ?_
              rotate_left
              · intro w2 hSw
                obtain ⟨s0, s1⟩ := hSw
                go_simp
                try with_reducible rfl
              simp only [Act.put, List.getElem_toArray, List.getElem_cons_succ, List.getElem_cons_zero, List.setIfInBounds_toArray, List.set_cons_zero, List.set_cons_succ]
              refine Rt.C_take (none) (i := 8) (oi := _) (v := ?_) rfl (by kernel_rfl) (by kernel_rfl) (by kernel_rfl) (by kernel_rfl) (fun _ _ _ h => h) (Sc2.other (by decide)) (Or.inl ⟨by rfl, ?_⟩) (fun o' _ => hS1 o') ?_
              rotate_left
              · intro w2 hSw
                obtain ⟨s0, s1⟩ := hSw
                go_simp
                try with_reducible rfl
              simp only [Act.put, List.getElem_toArray, List.getElem_cons_succ, List.getElem_cons_zero, List.setIfInBounds_toArray, List.set_cons_zero, List.set_cons_succ]
              refine Rt.C_take (none) (i := 9) (oi := _) (v := ?_) rfl (by kernel_rfl) (by kernel_rfl) (by kernel_rfl) (by kernel_rfl) (fun _ _ _ h => h) (Sc2.other (by decide)) (Or.inl ⟨by rfl, ?_⟩) (fun o' _ => hS1 o') ?_
              rotate_left
              · intro w2 hSw
                obtain ⟨s0, s1⟩ := hSw
                go_simp
                try with_reducible rfl
              simp only [Act.put, List.getElem_toArray, List.getElem_cons_succ, List.getElem_cons_zero, List.setIfInBounds_toArray, List.set_cons_zero, List.set_cons_succ]
              refine Rt.C_take (none) (i := 10) (oi := _) (v := ?_) rfl (by kernel_rfl) (by kernel_rfl) (by kernel_rfl) (by kernel_rfl) (fun _ _ _ h => h) (Sc2.other (by decide)) (Or.inl ⟨by rfl, ?_⟩) (fun o' _ => hS1 o') ?_
              rotate_left
              · intro w2 hSw
                obtain ⟨s0, s1⟩ := hSw
                go_simp
                try with_reducible rfl
              simp only [Act.put, List.getElem_toArray, List.getElem_cons_succ, List.getElem_cons_zero, List.setIfInBounds_toArray, List.set_cons_zero, List.set_cons_succ]
              refine Rt.C_take (none) (i := 11) (oi := _) (v := ?_) rfl (by kernel_rfl) (by kernel_rfl) (by kernel_rfl) (by kernel_rfl) (fun _ _ _ h => h) (Sc2.other (by decide)) (Or.inl ⟨by rfl, ?_⟩) (fun o' _ => hS1 o') ?_
              rotate_left
              · intro w2 hSw
                obtain ⟨s0, s1⟩ := hSw
                go_simp
                try with_reducible rfl
              simp only [Act.put, List.getElem_toArray, List.getElem_cons_succ, List.getElem_cons_zero, List.setIfInBounds_toArray, List.set_cons_zero, List.set_cons_succ]
              refine Rt.C_take (none) (i := 12) (oi := _) (v := ?_) rfl (by kernel_rfl) (by kernel_rfl) (by kernel_rfl) (by kernel_rfl) (fun _ _ _ h => h) (Sc2.other (by decide)) (Or.inl ⟨by rfl, ?_⟩) (fun o' _ => hS1 o') ?_
              rotate_left
              · intro w2 hSw
                obtain ⟨s0, s1⟩ := hSw
                go_simp
                try with_reducible rfl
              simp only [Act.put, List.getElem_toArray, List.getElem_cons_succ, List.getElem_cons_zero, List.setIfInBounds_toArray, List.set_cons_zero, List.set_cons_succ]
              refine Rt.C_take (none) (i := 13) (oi := _) (v := ?_) rfl (by kernel_rfl) (by kernel_rfl) (by kernel_rfl) (by kernel_rfl) (fun _ _ _ h => h) (Sc2.other (by decide)) (Or.inl ⟨by rfl, ?_⟩) (fun o' _ => hS1 o') ?_
              rotate_left
              · intro w2 hSw
                obtain ⟨s0, s1⟩ := hSw
                go_simp
                try with_reducible rfl
              simp only [Act.put, List.getElem_toArray, List.getElem_cons_succ, List.getElem_cons_zero, List.setIfInBounds_toArray, List.set_cons_zero, List.set_cons_succ]
              clear hS1
              refine Rt.C_ready (rs := [14]) (by kernel_rfl) (by simp) ?_
              refine Rt.AllC.cons (i := 14) (o := _) rfl (by rfl) (fun K' hK => ?_) ?_
              · skip
                go_simp
                refine (HMK.out cc wr.drew (HF.out.keep hdr HF.out.lt) (HZ.out.keep hdr) HCQ.out).mono ?_
                rintro e8 w8 ⟨hcase, hb8⟩
                have HB8 : Hid (Below wr.heap.size wr w8) := Lib.hid (hdr.trans (hb8.mono hdr.size))
                clear hb8 hdr
                have hS2 : ∀ o, Sc2 (fun w2 => w2.cell? ⟨rblk, ro + i2, none⟩ = some (.int .i64 (x2 : Nat)) ∧ w2.cell? ⟨rblk, ro + i1, none⟩ = some (.int .i64 (x3 : Nat))) (fun w2 => True) 999 o w8 := Sc2.of ⟨(HB8.out.cell (p := ⟨rblk, ro + i2, none⟩) hrl).trans c2, (HB8.out.cell (p := ⟨rblk, ro + i1, none⟩) hrl).trans c3⟩ trivial
                have HF := Lib.hid (HF.out.keep HB8.out HF.out.lt)
                have HZ := Lib.hid (HZ.out.keep HB8.out)
                have HR := Lib.hid (HR.out.keep HB8.out)
                have HM := Lib.hid (HM.out.below HB8.out)
                have HKY := Lib.hid (HKY.out.keep HB8.out HKY.out.lt)
                have HG := Lib.hid (HG.out.trans ((below_grown HB8.out).but _))
                clear HB8 c2 c3 hrl
                rcases hcase with ⟨rfl, hmk⟩ | ⟨rfl, hmk⟩
                · go_simp
                  refine hK _ _ (fun o' _ => hS2 o') ?_
                  clear hK K' hS2
                  simp only [Act.put, List.getElem_toArray, List.getElem_cons_succ, List.getElem_cons_zero, List.setIfInBounds_toArray, List.set_cons_zero, List.set_cons_succ]
                  refine Rt.C_done (by kernel_rfl) ?_ _
                  refine NoPanic.normal ?_
                  have HMK2 : Hid ((mkI B S f wd W) i x2 x3 cc) := Lib.hid (fun _ => by rw [HI2V.out]; exact hmk)
                  clear hmk
                  go_wp2_with fail
                  refine (HCL.out _ HR.out).mono ?_
                  rintro e9 w9 ⟨v9, rfl, hown, hb9⟩
                  have HB9 := Lib.hid hb9
                  have HO9 := Lib.hid hown
                  clear hown hb9
                  have HAL : Hid (Below w9.heap.size w9 (w9.alloc (.cells #[.int .i64 (cc : Nat)] 3))) := Lib.hid ((Below.refl _ _).alloc (Nat.le_refl _) _)
                  have HCEL : Hid ((w9.alloc (.cells #[.int .i64 (cc : Nat)] 3)).cell? ⟨w9.heap.size, 0, none⟩ = some (.int .i64 (cc : Nat))) := Lib.hid ((row_alloc w9 3 [.int .i64 (cc : Nat)]).cell 0)
                  have HOA := Lib.hid (own_keep HO9.out HAL.out)
                  have HSZ : Hid (w8.heap.size ≤ (w9.alloc (.cells #[.int .i64 (cc : Nat)] 3)).heap.size) := Lib.hid (Nat.le_trans HB9.out.size HAL.out.size)
                  go_wp2_with (at_builtin; refine Ops.wpList_append1 rfl _ _ 22 rfl w8.heap.size 3 i0 (.int .i64 0) 8 Tryd.underlying22 HI0.out HZ0.out rfl HZ1.out HZ2.out _ i _ rfl HOA.out ⟨w9.heap.size, 0, none⟩ 1 (.int .i64 (cc : Nat)) rfl HCEL.out rfl ?c1 ?c2 HSZ.out ?_)
                  case c1 => exact HI7.out.1
                  case c2 => exact HI7.out.2
                  intro ao co w10 hO10 hg10
                  have HO10 : Hid (w10.ownsRow w8.heap.size 3 1 (.slice ao (i + 1) co) (i + 1) ((rl ++ [(cc : Int)]).map (Value.int .i64))) := Lib.hid (by rw [List.map_append]; exact hO10)
                  have HBL : Hid (Below w8.heap.size w9 w10) := Lib.hid (((Below.refl _ _).alloc HB9.out.size _).grown hg10 HSZ.out (own_low HOA.out))
                  clear hO10 hg10 HAL HCEL HOA HSZ
                  have hB8 : Below w8.heap.size w8 w10 := HB9.out.trans HBL.out
                  have HF := Lib.hid (HF.out.keep hB8 HF.out.lt)
                  have HZ := Lib.hid (HZ.out.keep hB8)
                  have HR := Lib.hid (HR.out.keep hB8)
                  have HM := Lib.hid (HM.out.below hB8)
                  have HKY := Lib.hid (HKY.out.keep hB8 HKY.out.lt)
                  have HG := Lib.hid (HG.out.trans ((below_grown hB8).but _))
                  clear hB8 HBL HB9 HO9
                  obtain ⟨ao', co', hve, _, _, hi10, _⟩ := own_is HO10.out
                  cases hve
                  have HI10 := Lib.hid hi10
                  clear hi10 HO10
                  go_wp2_with fail
                  refine (HIH.out (i + 1) ao co (rl ++ [(cc : Int)]) x3 cc (cnt + cc * wrt Q k) w10 HIK.out HI10.out (by have := HRX.out; exact (HNX.out cc).1) (HNX.out cc).2 HCQ.out HF.out HZ.out HM.out (HCAP.out cc HCQ.out)).mono ?_
                  rintro e11 w11 ⟨hcase2, hm11, hg11⟩
                  have HF := Lib.hid (row_keptM HF.out hg11 HFM.out)
                  have HZ := Lib.hid (is_keptM HZ.out hg11 HZM.out)
                  have HR := Lib.hid (is_keptM HR.out hg11 HRM.out)
                  have HKY := Lib.hid (row_keptM HKY.out hg11 HKM.out)
                  have HG := Lib.hid (HG.out.trans hg11)
                  have HM := Lib.hid (hm11.mono (Nat.le_of_eq (cnt_eq cnt cc (wrt Q k))))
                  clear hm11 hg11 HI10
                  rcases hcase2 with ⟨rfl, hno⟩ | ⟨b5, o5, co5, s5, rfl, hyes, hi5⟩
                  · have HC3 : Hid (∀ c', c' < cc + 1 → (mkI B S f wd W) i x2 x3 c' → RowF (mkI B S f wd W) Q k (i + 1) x3 c' none) := Lib.hid (fun c' hc' hm' => by
                      rcases Nat.lt_or_eq_of_le (Nat.le_of_lt_succ hc') with h | rfl
                      · exact HC.out c' h hm'
                      · exact hno)
                    clear hno HC
                    have hcq := HCQ.out
                    have hq8 := HQ8.out
                    go_wp2_with fail
                    go_roundw
                    case rel => exact ⟨cc + 1, HCQ.out, by go_num, HC3.out, HF.out, HZ.out, HR.out, HM.out, HKY.out, HG.out⟩
                    case measure => simp [RowKit.intOf]; omega
                  · have HRS : Hid (RowF (mkI B S f wd W) Q (k + 1) i x2 x3 (some (cc * Q ^ k + s5))) := Lib.hid (rowF_some HCQ.out HC.out HMK2.out hyes)
                    have HI5 : Hid (Ints.Is w11 (some ⟨b5, o5, none⟩) (H + 2) (rl ++ rws Q (k + 1) (cc * Q ^ k + s5))) := Lib.hid (by rw [rws_next hyes.1, ← List.append_assoc] at *; exact hi5)
                    have HM := Lib.hid (HM.out.mono (HCM.out cc HCQ.out))
                    clear hyes hi5 HC
                    go_wp2_with fail
                    go_ret
                    exact FindP.yes (s := cc * Q ^ k + s5) rfl HRS.out HI5.out HM.out HG.out
                · go_simp
                  refine hK _ _ (fun o' _ => hS2 o') ?_
                  clear hK K' hS2
                  simp only [Act.put, List.getElem_toArray, List.getElem_cons_succ, List.getElem_cons_zero, List.setIfInBounds_toArray, List.set_cons_zero, List.set_cons_succ]
                  refine Rt.C_done (by kernel_rfl) ?_ _
                  refine NoPanic.normal ?_
                  have HC3 : Hid (∀ c', c' < cc + 1 → (mkI B S f wd W) i x2 x3 c' → RowF (mkI B S f wd W) Q k (i + 1) x3 c' none) := Lib.hid (fun c' hc' hm' => by
                    rcases Nat.lt_or_eq_of_le (Nat.le_of_lt_succ hc') with h | rfl
                    · exact HC.out c' h hm'
                    · exact absurd (hm' HI2.out) (by rw [HI2V.out]; exact hmk))
                  have HM4 := Lib.hid (HM.out.mono (cnt_next cnt cc (wrt Q k)))
                  clear hmk HM HC
                  have hcq := HCQ.out
                  have hq8 := HQ8.out
                  go_wp2_with fail
                  go_roundw
                  case rel => exact ⟨cc + 1, HCQ.out, by go_num, HC3.out, HF.out, HZ.out, HR.out, HM4.out, HKY.out, HG.out⟩
                  case measure => simp [RowKit.intOf]; omega
              exact Rt.AllC.nil
            · obtain rfl : cc = Q := by omega
              have hne : ¬ (cc : Int) < (cc : Int) := by omega
              have HNO : Hid (RowF (mkI B S f wd W) cc (k + 1) i x2 x3 none) := Lib.hid (rowF_none HC.out)
              clear hcq hcc HC
              go_upto_region 15 with fail
              have hdr : Below wr.heap.size wr wr.drew := (Below.refl _ _).drew
              have HF := Lib.hid (HF.out.keep hdr HF.out.lt)
              have HZ := Lib.hid (HZ.out.keep hdr)
              have HR := Lib.hid (HR.out.keep hdr)
              have HM := Lib.hid (HM.out.below hdr)
              have HKY := Lib.hid (HKY.out.keep hdr HKY.out.lt)
              have HG := Lib.hid (HG.out.trans ((below_grown hdr).but _))
              clear hdr
              refine wp_region_noPanic ?_
              refine Rt.region_Cn (Sc2 (fun w2 => w2.cell? ⟨fb, 11, none⟩ = some (.map (some mb)) ∧ w2.cell? ⟨kb, 0, none⟩ = some (.int .i64 (i : Nat)) ∧ w2.cell? ⟨kb, 1, none⟩ = some (.int .i64 (x2 : Nat)) ∧ w2.cell? ⟨kb, 2, none⟩ = some (.int .i64 (x3 : Nat))) (fun w2 => True) 999) 6 #[false, false, false, false, false, false] (by kernel_rfl) (by kernel_rfl) (by kernel_rfl) ?_
              have hS1 : ∀ o, Sc2 (fun w2 => w2.cell? ⟨fb, 11, none⟩ = some (.map (some mb)) ∧ w2.cell? ⟨kb, 0, none⟩ = some (.int .i64 (i : Nat)) ∧ w2.cell? ⟨kb, 1, none⟩ = some (.int .i64 (x2 : Nat)) ∧ w2.cell? ⟨kb, 2, none⟩ = some (.int .i64 (x3 : Nat))) (fun w2 => True) 999 o wr.drew := Sc2.of ⟨HF.out.cell 11, HKY.out.cell 0, HKY.out.cell 1, HKY.out.cell 2⟩ trivial
              refine Rt.C_take (none) (i := 0) (oi := _) (v := ?_) rfl (by kernel_rfl) (by kernel_rfl) (by kernel_rfl) (by kernel_rfl) (fun _ _ _ h => h) (Sc2.other (by decide)) (Or.inl ⟨by rfl, ?_⟩) (fun o' _ => hS1 o') ?_
              rotate_left
              · intro w2 hSw
                obtain ⟨s0, s1, s2, s3⟩ := hSw
                go_simp
                try with_reducible rfl
              simp only [Act.put, List.getElem_toArray, List.getElem_cons_succ, List.getElem_cons_zero, List.setIfInBounds_toArray, List.set_cons_zero, List.set_cons_succ]
              refine Rt.C_take (none) (i := 1) (oi := _) (v := ?_) rfl (by kernel_rfl) (by kernel_rfl) (by kernel_rfl) (by kernel_rfl) (fun _ _ _ h => h) (Sc2.other (by decide)) (Or.inl ⟨by rfl, ?_⟩) (fun o' _ => hS1 o') ?_
              rotate_left
              · intro w2 hSw
                obtain ⟨s0, s1, s2, s3⟩ := hSw
                go_simp
                try with_reducible rfl
              simp only [Act.put, List.getElem_toArray, List.getElem_cons_succ, List.getElem_cons_zero, List.setIfInBounds_toArray, List.set_cons_zero, List.set_cons_succ]
              refine Rt.C_take (none) (i := 2) (oi := _) (v := ?_) rfl (by kernel_rfl) (by kernel_rfl) (by kernel_rfl) (by kernel_rfl) (fun _ _ _ h => h) (Sc2.other (by decide)) (Or.inl ⟨by rfl, ?_⟩) (fun o' _ => hS1 o') ?_
              rotate_left
              · intro w2 hSw
                obtain ⟨s0, s1, s2, s3⟩ := hSw
                go_simp
                try with_reducible rfl
              simp only [Act.put, List.getElem_toArray, List.getElem_cons_succ, List.getElem_cons_zero, List.setIfInBounds_toArray, List.set_cons_zero, List.set_cons_succ]
              refine Rt.C_take (none) (i := 3) (oi := _) (v := ?_) rfl (by kernel_rfl) (by kernel_rfl) (by kernel_rfl) (by kernel_rfl) (fun _ _ _ h => h) (Sc2.other (by decide)) (Or.inl ⟨by rfl, ?_⟩) (fun o' _ => hS1 o') ?_
              rotate_left
              · intro w2 hSw
                obtain ⟨s0, s1, s2, s3⟩ := hSw
                go_simp
                try with_reducible rfl
              simp only [Act.put, List.getElem_toArray, List.getElem_cons_succ, List.getElem_cons_zero, List.setIfInBounds_toArray, List.set_cons_zero, List.set_cons_succ]
              refine Rt.C_take (none) (i := 4) (oi := _) (v := ?_) rfl (by kernel_rfl) (by kernel_rfl) (by kernel_rfl) (by kernel_rfl) (fun _ _ _ h => h) (Sc2.other (by decide)) (Or.inl ⟨by rfl, ?_⟩) (fun o' _ => hS1 o') ?_
              rotate_left
              · intro w2 hSw
                obtain ⟨s0, s1, s2, s3⟩ := hSw
                go_simp
                try with_reducible rfl
              simp only [Act.put, List.getElem_toArray, List.getElem_cons_succ, List.getElem_cons_zero, List.setIfInBounds_toArray, List.set_cons_zero, List.set_cons_succ]
              clear hS1
              refine Rt.C_ready (rs := [5]) (by kernel_rfl) (by simp) ?_
              refine Rt.AllC.cons (i := 5) (o := _) rfl (by rfl) (fun K' hK => ?_) ?_
              · skip
                obtain ⟨w5, hrun, hm5, hg5⟩ := HM.out.put HIB.out HXB.out.1 HXB.out.2 HCX.out (HKB.out HNO.out)
                unfold mky at hrun
                go_simp
                refine hK _ _ (fun o' _ => Sc2.of ⟨(row_keptM HF.out hg5 HFM.out).cell 11, (row_keptM HKY.out hg5 HKM.out).cell 0, (row_keptM HKY.out hg5 HKM.out).cell 1, (row_keptM HKY.out hg5 HKM.out).cell 2⟩ trivial o') ?_
                clear hK K' hrun
                simp only [Act.put, List.getElem_toArray, List.getElem_cons_succ, List.getElem_cons_zero, List.setIfInBounds_toArray, List.set_cons_zero, List.set_cons_succ]
                refine Rt.C_done (by kernel_rfl) ?_ _
                refine NoPanic.normal ?_
                have HG5 := Lib.hid (HG.out.trans hg5)
                have HM5 := Lib.hid hm5
                clear hg5 hm5 HF HZ HR HKY HM HG
                go_wp2_with fail
                go_ret
                exact FindP.no rfl HNO.out HM5.out HG5.out
              exact Rt.AllC.nil
        · go_wp2_with fail
          go_ret
          exact FindP.no rfl (HBK.out (HQB.out (by first | rfl | trivial))) (HM.out.mono (Nat.le_add_right _ _)) HG.out
      exact Rt.AllC.nil
    exact Rt.AllC.nil
end Pn
end Go.Proofs.YthipeeagpllfeaaDoor
