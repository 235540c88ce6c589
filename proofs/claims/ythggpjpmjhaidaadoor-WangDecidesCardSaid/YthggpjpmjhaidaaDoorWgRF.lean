/- WALK: edenref7's fits and Fits. -/
import Derived.Test.YthggpjpmjhaidaaDoorWgR
import Derived.Test.YthggpjpmjhaidaaDoorWgFt
import Derived.Deep.DeepCutAuto
namespace Go.Proofs.YthggpjpmjhaidaaDoor
set_option linter.unusedSimpArgs false
set_option linter.unusedVariables false
open Go.RowKit Go.Lib
namespace Wg
open Tld Mem

def tcs (t : Tl) : List Value := [.int .i64 t.u, .int .i64 t.r, .int .i64 t.d, .int .i64 t.l]
theorem nat_mod {k W : Nat} : (k : Int).tmod (W : Int) = (k % W : Nat) := Int.ofNat_tmod _ _
theorem nat_div {k W : Nat} : (k : Int).tdiv (W : Int) = (k / W : Nat) := Int.ofNat_tdiv _ _
open Classical in
/-- Does the cell fit? -/
noncomputable def fitB (W H : Nat) (ring : Bool) (t : Nat → Tl) (k : Nat) : Bool := decide (FitW W ring t k ∧ FitF W H ring t k)
open Classical in
theorem fitB_no {W H : Nat} {ring : Bool} {t : Nat → Tl} {k : Nat} (h : ¬ (FitW W ring t k ∧ FitF W H ring t k)) : Ending.returned (.bool false) = .returned (.bool (fitB W H ring t k)) := by
  unfold fitB; rw [decide_eq_false h]
open Classical in
theorem fitB_yes {W H : Nat} {ring : Bool} {t : Nat → Tl} {k : Nat} (h : FitW W ring t k ∧ FitF W H ring t k) : Ending.returned (.bool true) = .returned (.bool (fitB W H ring t k)) := by
  unfold fitB; rw [decide_eq_true h]
set_option maxHeartbeats 4000000 in
set_option maxRecDepth 1000000 in
theorem rfit_any (a : Option Addr) (n c : Nat) (ts : List Tl) (W H : Nat) (sa : Option Addr) (sn sc : Nat) (zs : List Int) (k : Nat) (ring : Bool) (w : World) (hT : Tiles w a n ts) (hn : n ≤ 16)
    (hW1 : 1 ≤ W) (hW5 : W ≤ 5) (hH1 : 1 ≤ H) (hH5 : H ≤ 5) (hk : k < sn) (hsn : sn ≤ 25) (hlt : ∀ j, j ≤ k → 0 ≤ zs.getD j 0 ∧ zs.getD j 0 < (n : Int)) (hZ : Cells w sa sn (fun i => .int .i64 (zs.getD i 0))) :
    Calls Tryd.prog 48 #[.slice a n c, .int .i64 W, .int .i64 H, .slice sa sn sc, .int .i64 k, .bool ring] w fun e w' => e = .returned (.bool (fitB W H ring (zt ts zs) k)) ∧ Below w.heap.size w w' := by
  have HT := Lib.hid hT
  have HZ := Lib.hid hZ
  have HLT := Lib.hid hlt
  obtain ⟨bz, oz, rfl, hbz, hcz⟩ := HZ.out k hk
  obtain ⟨bt, ot, rfl, hbt⟩ := HT.out.some (by have := HLT.out k (Nat.le_refl _); omega)
  dsimp only at hcz
  have hW00 : ¬ W = 0 := by omega
  obtain ⟨x, hx⟩ : ∃ x, x = k % W := ⟨_, rfl⟩
  obtain ⟨y, hy⟩ : ∃ y, y = k / W := ⟨_, rfl⟩
  have hxW : x < W := by rw [hx]; exact Nat.mod_lt _ (by omega)
  have hxk : x ≤ k := by rw [hx]; exact Nat.mod_le _ _
  have hyk : y ≤ k := by rw [hy]; exact Nat.div_le_self _ _
  have hyW : 0 < y → W ≤ k := fun h => by
    rcases Nat.lt_or_ge k W with h1 | h1
    · rw [hy, Nat.div_eq_of_lt h1] at h; omega
    · exact h1
  have hmx : (k : Int).tmod (W : Int) = (x : Int) := by rw [hx]; exact nat_mod
  have hdy : (k : Int).tdiv (W : Int) = (y : Int) := by rw [hy]; exact nat_div
  obtain ⟨hz0, hz1⟩ := HLT.out k (Nat.le_refl _)
  have hr := (HT.out.range (i := (zs.getD k 0).toNat) (by omega)).2
  have HR := Lib.hid hr
  have HTK : Hid (zt ts zs k = ts.getD (zs.getD k 0).toNat noTile) := rfl
  have HX := Lib.hid hx
  have HY := Lib.hid hy
  clear hT hZ hlt hr hx hy
  generalize zs.getD k 0 = z at *
  generalize ts.getD z.toNat noTile = t at *
  obtain ⟨tu, tr, td, tl⟩ := t
  go_enter Tryd.func48, Tryd.ntmps48
  go_upto_if 34 with (refine wpList_load_mid rfl 89 _ rfl bt (ot + z.toNat * 4) rfl _ _ HR.out Tryd.underlying89 rfl infoTile ?_)
  have hB : Below w.heap.size w (w.alloc (.cells #[.int .i64 tu, .int .i64 tr, .int .i64 td, .int .i64 tl] 89)) := (Below.refl _ _).alloc (Nat.le_refl _) _
  have hrow : Row (w.alloc (.cells #[.int .i64 tu, .int .i64 tr, .int .i64 td, .int .i64 tl] 89)) w.heap.size 89 [.int .i64 tu, .int .i64 tr, .int .i64 td, .int .i64 tl] := row_alloc w 89 [.int .i64 tu, .int .i64 tr, .int .i64 td, .int .i64 tl]
  clear hcz hbz hbt HR
  generalize w.alloc (.cells #[.int .i64 tu, .int .i64 tr, .int .i64 td, .int .i64 tl] 89) = w1 at *
  go_cut [] (fun wx => (0 < x → (zt ts zs (k - 1)).r = tl) ∧ Row wx w.heap.size 89 [.int .i64 tu, .int .i64 tr, .int .i64 td, .int .i64 tl] ∧ Below w.heap.size w wx)
  case first =>
    by_cases hcnd : 0 < x
    case pos =>
      have hj : ((k : Int) - 1).toNat = k - 1 := by omega
      have hj0 : 0 ≤ (k : Int) - 1 ∧ (k : Int) - 1 < (sn : Int) := by omega
      obtain ⟨hj1, hj2⟩ := hj0
      obtain ⟨bz', oz', ez, hbz, hcz⟩ := (HZ.out.keep hB) (k - 1) (by omega)
      cases ez
      dsimp only at hcz
      obtain ⟨hz0, hz1⟩ := HLT.out (k - 1) (by omega)
      have hr := (HT.out.keep hB).range (i := (zs.getD (k - 1) 0).toNat) (by omega)
      have hbt := hr.1
      have HR := Lib.hid hr.2
      have HZT : Hid (zt ts zs (k - 1) = ts.getD (zs.getD (k - 1) 0).toNat noTile) := rfl
      have k3 := hrow.cell 3
      have hrl := hrow.lt
      have HROW := Lib.hid hrow
      have HB := Lib.hid hB
      clear hr hrow hB
      generalize zs.getD (k - 1) 0 = z2 at *
      generalize ts.getD z2.toNat noTile = t2 at *
      obtain ⟨ou, or, od, ol⟩ := t2
      by_cases heq : or = tl
      · go_wp2_with (refine wpList_load_mid rfl 89 _ rfl bt (ot + z2.toNat * 4) rfl _ _ HR.out Tryd.underlying89 rfl infoTile ?_)
        go_meet
        case rel => exact ⟨fun _ => by rw [HZT.out]; exact heq, HROW.out.keep ((Below.refl _ _).alloc (Nat.le_refl _) _) HROW.out.lt, HB.out.alloc HB.out.size _⟩
      · go_wp2_with (refine wpList_load_mid rfl 89 _ rfl bt (ot + z2.toNat * 4) rfl _ _ HR.out Tryd.underlying89 rfl infoTile ?_)
        go_ret
        refine ⟨fitB_no fun h => heq ?_, HB.out.alloc HB.out.size _⟩
        have h2 := h.1.left (by rw [← HX.out]; exact hcnd); rw [HZT.out, HTK.out] at h2; exact h2
    case neg =>
      have hcz1 : decide ((0 : Int) < (x : Int)) = false := by rw [decide_eq_false_iff_not]; omega
      have HCN := Lib.hid hcnd
      clear hcnd
      go_wp2_with fail
      go_meet
      case rel => exact ⟨fun h => absurd h HCN.out, hrow, hB⟩
  case rest =>
  obtain ⟨hp1, hrow, hB⟩ := hcut
  have HP1 := Lib.hid hp1
  clear hp1
  obtain ⟨w2, hwe⟩ : ∃ w2 : World, w2 = wc := ⟨_, rfl⟩
  rw [← hwe] at hrow hB ⊢
  clear hwe
  go_upto_if 49 with fail
  go_cut [] (fun wx => (0 < y → (zt ts zs (k - W)).d = tu) ∧ Row wx w.heap.size 89 [.int .i64 tu, .int .i64 tr, .int .i64 td, .int .i64 tl] ∧ Below w.heap.size w wx)
  case first =>
    by_cases hcnd : 0 < y
    case pos =>
      have hWk := hyW hcnd
      have hj : ((k : Int) - (W : Int)).toNat = k - W := by omega
      have hj0 : 0 ≤ (k : Int) - (W : Int) ∧ (k : Int) - (W : Int) < (sn : Int) := by omega
      obtain ⟨hj1, hj2⟩ := hj0
      obtain ⟨bz', oz', ez, hbz, hcz⟩ := (HZ.out.keep hB) (k - W) (by omega)
      cases ez
      dsimp only at hcz
      obtain ⟨hz0, hz1⟩ := HLT.out (k - W) (by omega)
      have hr := (HT.out.keep hB).range (i := (zs.getD (k - W) 0).toNat) (by omega)
      have hbt := hr.1
      have HR := Lib.hid hr.2
      have HZT : Hid (zt ts zs (k - W) = ts.getD (zs.getD (k - W) 0).toNat noTile) := rfl
      have k0 := hrow.cell 0
      have hrl := hrow.lt
      have HROW := Lib.hid hrow
      have HB := Lib.hid hB
      clear hr hrow hB
      generalize zs.getD (k - W) 0 = z2 at *
      generalize ts.getD z2.toNat noTile = t2 at *
      obtain ⟨ou, or, od, ol⟩ := t2
      by_cases heq : od = tu
      · go_wp2_with (refine wpList_load_mid rfl 89 _ rfl bt (ot + z2.toNat * 4) rfl _ _ HR.out Tryd.underlying89 rfl infoTile ?_)
        go_meet
        case rel => exact ⟨fun _ => by rw [HZT.out]; exact heq, HROW.out.keep ((Below.refl _ _).alloc (Nat.le_refl _) _) HROW.out.lt, HB.out.alloc HB.out.size _⟩
      · go_wp2_with (refine wpList_load_mid rfl 89 _ rfl bt (ot + z2.toNat * 4) rfl _ _ HR.out Tryd.underlying89 rfl infoTile ?_)
        go_ret
        refine ⟨fitB_no fun h => heq ?_, HB.out.alloc HB.out.size _⟩
        have h2 := h.1.up (by rw [← HY.out]; exact hcnd); rw [HZT.out, HTK.out] at h2; exact h2
    case neg =>
      have hcz1 : decide ((0 : Int) < (y : Int)) = false := by rw [decide_eq_false_iff_not]; omega
      have HCN := Lib.hid hcnd
      clear hcnd
      go_wp2_with fail
      go_meet
      case rel => exact ⟨fun h => absurd h HCN.out, hrow, hB⟩
  case rest =>
  obtain ⟨hp2, hrow, hB⟩ := hcut
  have HP2 := Lib.hid hp2
  clear hp2
  obtain ⟨w3, hwe⟩ : ∃ w2 : World, w2 = wc := ⟨_, rfl⟩
  rw [← hwe] at hrow hB ⊢
  clear hwe
  go_upto_region 12 with fail
  go_cut [70] (fun s wx => (∃ q : Bool, s = .bool q ∧ (q = true ↔ (ring = true ∧ x = W - 1))) ∧ wx = w3)
  case first =>
    clear HT HZ HLT HTK HX HY
    cases ring
    all_goals
      go_wp2_with fail
      go_meet
      case rel => first | exact ⟨⟨_, rfl, by simp <;> omega⟩, rfl⟩ | exact ⟨⟨_, rfl, by rw [beq_iff_eq]; exact ⟨fun h => ⟨rfl, by omega⟩, fun h => by have := h.2; omega⟩⟩, rfl⟩ | exact ⟨⟨_, rfl, by rw [decide_eq_true_iff]; exact ⟨fun h => ⟨rfl, by omega⟩, fun h => by have := h.2; omega⟩⟩, rfl⟩
  case rest =>
  obtain ⟨⟨q, rfl, hq⟩, rfl⟩ := hcut
  have HQ := Lib.hid hq
  clear hq
  go_upto_if 70 with fail
  go_cut [] (fun wx => (ring = true → x = W - 1 → tr = (zt ts zs (k - x)).l) ∧ Row wx w.heap.size 89 [.int .i64 tu, .int .i64 tr, .int .i64 td, .int .i64 tl] ∧ Below w.heap.size w wx)
  case first =>
    cases q
    case true =>
      have HRG := Lib.hid (HQ.out.1 rfl).1
      have HXW := Lib.hid (HQ.out.1 rfl).2
      clear HQ
      have hj : ((k : Int) - (x : Int)).toNat = k - x := by omega
      have hj0 : 0 ≤ (k : Int) - (x : Int) ∧ (k : Int) - (x : Int) < (sn : Int) := by omega
      obtain ⟨hj1, hj2⟩ := hj0
      obtain ⟨bz', oz', ez, hbz, hcz⟩ := (HZ.out.keep hB) (k - x) (by omega)
      cases ez
      dsimp only at hcz
      obtain ⟨hz0, hz1⟩ := HLT.out (k - x) (by omega)
      have hr := (HT.out.keep hB).range (i := (zs.getD (k - x) 0).toNat) (by omega)
      have hbt := hr.1
      have HR := Lib.hid hr.2
      have HZT : Hid (zt ts zs (k - x) = ts.getD (zs.getD (k - x) 0).toNat noTile) := rfl
      have k1 := hrow.cell 1
      have hrl := hrow.lt
      have HROW := Lib.hid hrow
      have HB := Lib.hid hB
      clear hr hrow hB
      generalize zs.getD (k - x) 0 = z2 at *
      generalize ts.getD z2.toNat noTile = t2 at *
      obtain ⟨ou, or, od, ol⟩ := t2
      by_cases heq : tr = ol
      · go_wp2_with (refine wpList_load_mid rfl 89 _ rfl bt (ot + z2.toNat * 4) rfl _ _ HR.out Tryd.underlying89 rfl infoTile ?_)
        go_meet
        case rel => exact ⟨fun _ _ => by rw [HZT.out]; exact heq, HROW.out.keep ((Below.refl _ _).alloc (Nat.le_refl _) _) HROW.out.lt, HB.out.alloc HB.out.size _⟩
      · go_wp2_with (refine wpList_load_mid rfl 89 _ rfl bt (ot + z2.toNat * 4) rfl _ _ HR.out Tryd.underlying89 rfl infoTile ?_)
        go_ret
        refine ⟨fitB_no fun h => heq ?_, HB.out.alloc HB.out.size _⟩
        have h2 := h.1.rim HRG.out (by rw [← HX.out]; exact HXW.out); rw [← HX.out, HZT.out, HTK.out] at h2; exact h2
    case false =>
      have HCN : Hid (¬ (ring = true ∧ x = W - 1)) := fun h => absurd (HQ.out.2 h) (by decide)
      clear HQ
      go_wp2_with fail
      go_meet
      case rel => exact ⟨fun h1 h2 => absurd ⟨h1, h2⟩ HCN.out, hrow, hB⟩
  case rest =>
  obtain ⟨hp3, hrow, hB⟩ := hcut
  have HP3 := Lib.hid hp3
  clear hp3
  obtain ⟨w4, hwe⟩ : ∃ w2 : World, w2 = wc := ⟨_, rfl⟩
  rw [← hwe] at hrow hB ⊢
  clear hwe
  go_upto_region 16 with fail
  go_cut [91] (fun s wx => (∃ q : Bool, s = .bool q ∧ (q = true ↔ (ring = true ∧ y = H - 1))) ∧ wx = w4)
  case first =>
    clear HT HZ HLT HTK HX HY
    cases ring
    all_goals
      go_wp2_with fail
      go_meet
      case rel => first | exact ⟨⟨_, rfl, by simp <;> omega⟩, rfl⟩ | exact ⟨⟨_, rfl, by rw [beq_iff_eq]; exact ⟨fun h => ⟨rfl, by omega⟩, fun h => by have := h.2; omega⟩⟩, rfl⟩ | exact ⟨⟨_, rfl, by rw [decide_eq_true_iff]; exact ⟨fun h => ⟨rfl, by omega⟩, fun h => by have := h.2; omega⟩⟩, rfl⟩
  case rest =>
  obtain ⟨⟨q, rfl, hq⟩, rfl⟩ := hcut
  have HQ := Lib.hid hq
  clear hq
  go_upto_if 91 with fail
  go_cut [] (fun wx => (ring = true → y = H - 1 → td = (zt ts zs x).u) ∧ Row wx w.heap.size 89 [.int .i64 tu, .int .i64 tr, .int .i64 td, .int .i64 tl] ∧ Below w.heap.size w wx)
  case first =>
    cases q
    case true =>
      have HRG := Lib.hid (HQ.out.1 rfl).1
      have HXW := Lib.hid (HQ.out.1 rfl).2
      clear HQ
      have hj0 : 0 ≤ (x : Int) ∧ (x : Int) < (sn : Int) := by omega
      obtain ⟨hj1, hj2⟩ := hj0
      obtain ⟨bz', oz', ez, hbz, hcz⟩ := (HZ.out.keep hB) (x) (by omega)
      cases ez
      dsimp only at hcz
      obtain ⟨hz0, hz1⟩ := HLT.out (x) (by omega)
      have hr := (HT.out.keep hB).range (i := (zs.getD (x) 0).toNat) (by omega)
      have hbt := hr.1
      have HR := Lib.hid hr.2
      have HZT : Hid (zt ts zs (x) = ts.getD (zs.getD (x) 0).toNat noTile) := rfl
      have k2 := hrow.cell 2
      have hrl := hrow.lt
      have HROW := Lib.hid hrow
      have HB := Lib.hid hB
      clear hr hrow hB
      generalize zs.getD (x) 0 = z2 at *
      generalize ts.getD z2.toNat noTile = t2 at *
      obtain ⟨ou, or, od, ol⟩ := t2
      by_cases heq : td = ou
      · go_wp2_with (refine wpList_load_mid rfl 89 _ rfl bt (ot + z2.toNat * 4) rfl _ _ HR.out Tryd.underlying89 rfl infoTile ?_)
        go_meet
        case rel => exact ⟨fun _ _ => by rw [HZT.out]; exact heq, HROW.out.keep ((Below.refl _ _).alloc (Nat.le_refl _) _) HROW.out.lt, HB.out.alloc HB.out.size _⟩
      · go_wp2_with (refine wpList_load_mid rfl 89 _ rfl bt (ot + z2.toNat * 4) rfl _ _ HR.out Tryd.underlying89 rfl infoTile ?_)
        go_ret
        refine ⟨fitB_no fun h => heq ?_, HB.out.alloc HB.out.size _⟩
        have h2 := h.2 HRG.out (by rw [← HY.out]; exact HXW.out); rw [← HX.out, HZT.out, HTK.out] at h2; exact h2
    case false =>
      have HCN : Hid (¬ (ring = true ∧ y = H - 1)) := fun h => absurd (HQ.out.2 h) (by decide)
      clear HQ
      go_wp2_with fail
      go_meet
      case rel => exact ⟨fun h1 h2 => absurd ⟨h1, h2⟩ HCN.out, hrow, hB⟩
  case rest =>
  obtain ⟨hp4, hrow, hB⟩ := hcut
  have HP4 := Lib.hid hp4
  clear hp4
  obtain ⟨w5, hwe⟩ : ∃ w2 : World, w2 = wc := ⟨_, rfl⟩
  rw [← hwe] at hrow hB ⊢
  clear hwe
  go_wp2_with fail
  go_ret
  refine ⟨fitB_yes ⟨⟨fun h => ?_, fun h => ?_, fun h1 h2 => ?_⟩, fun h1 h2 => ?_⟩, hB⟩
  · rw [HTK.out]; exact HP1.out (by rw [HX.out]; exact h)
  · rw [HTK.out]; exact HP2.out (by rw [HY.out]; exact h)
  · rw [HTK.out, ← HX.out]; exact HP3.out h1 (by rw [HX.out]; exact h2)
  · rw [HTK.out, ← HX.out]; exact HP4.out h1 (by rw [HY.out]; exact h2)
end Wg
end Go.Proofs.YthggpjpmjhaidaaDoor
