/- WALK: edenref7's Tiles, Sides, Cells. -/
import Derived.Test.YthggpjpmjhaidaaDoorWgW
import Derived.Deep.DeepCutAuto
namespace Go.Proofs.YthggpjpmjhaidaaDoor
set_option linter.unusedSimpArgs false
set_option linter.unusedVariables false
open Go.RowKit Go.Lib
namespace Wg
open Tld Mem

theorem retI {a b : Int} (h : a = b) : Ending.returned (.int .i64 a) = .returned (.int .i64 b) := by rw [h]
theorem four_ok {t : Tl} (h : ∀ k, k < 4 → col (tcell t k) = true) : t.ok = true := by
  unfold Tl.ok
  have h0 : col t.u = true := h 0 (by omega)
  have h1 : col t.r = true := h 1 (by omega)
  have h2 : col t.d = true := h 2 (by omega)
  have h3 : col t.l = true := h 3 (by omega)
  rw [h0, h1, h2, h3]; rfl
theorem four_bad {t : Tl} {k : Nat} (hk : k < 4) (h : col (tcell t k) = false) : t.ok = false := by
  unfold Tl.ok
  match k, hk with
  | 0, _ => rw [show col t.u = false from h]; rfl
  | 1, _ => rw [show col t.r = false from h]; simp
  | 2, _ => rw [show col t.d = false from h]; simp
  | 3, _ => rw [show col t.l = false from h]; simp
theorem col_iff {c : Int} : col c = true ↔ 0 ≤ c ∧ c ≤ 7 := by unfold col; simp
set_option maxHeartbeats 2000000 in
set_option maxRecDepth 100000 in
theorem rtiles_any (a : Option Addr) (n c : Nat) (ts : List Tl) (w : World) (hT : Tiles w a n ts) :
    Calls Tryd.prog 22 #[.slice a n c] w fun e w' => e = .returned (.int .i64 (tfault ts)) ∧ Below w.heap.size w w' := by
  have HT := Lib.hid hT
  have hnl := hT.len
  have hmx := hT.le
  unfold maxLen at hmx
  clear hT
  by_cases h16 : 1 ≤ n ∧ n ≤ 16
  · obtain ⟨h1, h2⟩ := h16
    have HTE := Lib.hid (tfault_ok (ts := ts) (by omega) (by omega))
    have HTB := Lib.hid (fun k hk h => tfault_bad (ts := ts) (by omega) (by omega) (k := k) hk h)
    have HNL := Lib.hid hnl
    clear hnl
    obtain ⟨b, off, rfl, hbl⟩ := HT.out.some (by omega)
    have hn0 : ¬ n < 1 := by omega
    go_enter Tryd.func22, Tryd.ntmps22
    go_wp2
    go_loopw [3] (fun v wr => ∃ i : Nat, i ≤ n ∧ v = .int .i64 i ∧ (∀ k, k < i → (ts.getD k noTile).ok = true) ∧ Below w.heap.size w wr) (fun v _ => n - (intOf v).toNat)
    case atStart => exact ⟨0, Nat.zero_le _, rfl, fun k hk => absurd hk (Nat.not_lt_zero _), Below.refl _ _⟩
    case round =>
      obtain ⟨i, hi, rfl, hok, hbel⟩ := hrel
      have HOK := Lib.hid hok
      clear hok
      by_cases hlt : i < n
      · obtain ⟨_, hr⟩ := (HT.out.keep hbel).range hlt
        have HR := Lib.hid hr
        have HBAD := Lib.hid (HTB.out i (by rw [HNL.out]; exact hlt))
        have HOK2 : Hid ((ts.getD i noTile).ok = true → ∀ k, k < i + 1 → (ts.getD k noTile).ok = true) := fun h k hk => by
          by_cases hki : k = i
          · subst hki; exact h
          · exact HOK.out k (by omega)
        clear hr
        generalize ts.getD i noTile = t at *
        obtain ⟨tu, tr, td, tl⟩ := t
        go_wp2_with (refine wpList_load_mid rfl 89 _ rfl b (off + i * 4) rfl _ _ HR.out Tryd.underlying89 rfl infoTile ?_)
        have hB2 : Below w.heap.size w ((wr.alloc (.cells #[.int .i64 tu, .int .i64 tr, .int .i64 td, .int .i64 tl] 89)).alloc (.cells #[.int .i64 tu, .int .i64 tr, .int .i64 td, .int .i64 tl] 3)) := (hbel.alloc hbel.size _).alloc (by have := hbel.size; simp; omega) _
        have hrow := row_alloc (wr.alloc (.cells #[.int .i64 tu, .int .i64 tr, .int .i64 td, .int .i64 tl] 89)) 3 [.int .i64 tu, .int .i64 tr, .int .i64 td, .int .i64 tl]
        rw [World.size_alloc] at hrow
        have HB2 := Lib.hid hB2
        have HROW : Hid (∀ k, k < 4 → ((wr.alloc (.cells #[.int .i64 tu, .int .i64 tr, .int .i64 td, .int .i64 tl] 89)).alloc (.cells #[.int .i64 tu, .int .i64 tr, .int .i64 td, .int .i64 tl] 3)).cell? ⟨wr.heap.size + 1, k, none⟩ = some (.int .i64 (tcell ⟨tu, tr, td, tl⟩ k))) := fun k hk => (hrow.cell k).trans (by
          match k, hk with
          | 0, _ => rfl
          | 1, _ => rfl
          | 2, _ => rfl
          | 3, _ => rfl)
        clear hB2 hrow
        generalize (wr.alloc (.cells #[.int .i64 tu, .int .i64 tr, .int .i64 td, .int .i64 tl] 89)).alloc (.cells #[.int .i64 tu, .int .i64 tr, .int .i64 td, .int .i64 tl] 3) = w2 at *
        go_loop [6] (fun v => ∃ k : Nat, k ≤ 4 ∧ v = .int .i64 k ∧ ∀ j, j < k → col (tcell ⟨tu, tr, td, tl⟩ j) = true) (fun v => 4 - (intOf v).toNat)
        case atStart => exact ⟨0, Nat.zero_le _, rfl, fun k hk => absurd hk (Nat.not_lt_zero _)⟩
        case round =>
          obtain ⟨k, hk, rfl, hcs⟩ := hrel
          have HCS := Lib.hid hcs
          clear hcs
          by_cases hk4 : k < 4
          · have hck := HROW.out k hk4
            have HCS2 : Hid (col (tcell ⟨tu, tr, td, tl⟩ k) = true → ∀ j, j < k + 1 → col (tcell ⟨tu, tr, td, tl⟩ j) = true) := fun h j hj => by
              by_cases hjk : j = k
              · subst hjk; exact h
              · exact HCS.out j (by omega)
            have HFB : Hid (col (tcell ⟨tu, tr, td, tl⟩ k) = false → tfault ts = 1) := fun h => HBAD.out (four_bad hk4 h)
            generalize tcell ⟨tu, tr, td, tl⟩ k = z at *
            by_cases hz : 0 ≤ z ∧ z ≤ 7
            · obtain ⟨hz0, hz7⟩ := hz
              go_wp2
              go_round
              case rel => exact ⟨k + 1, by omega, by go_num, HCS2.out (col_iff.2 ⟨hz0, hz7⟩)⟩
              case measure => simp [intOf]; omega
            · have hcf : col z = false := by rw [Bool.eq_false_iff]; exact fun h => hz (col_iff.1 h)
              have HCF := Lib.hid hcf
              clear hcf
              by_cases hz0 : z < 0
              case' pos => skip
              case' neg => have hz7 : 7 < z := by omega
              all_goals
                go_wp2
                go_ret
                exact ⟨retI (HFB.out HCF.out).symm, HB2.out⟩
          · go_wp2
            go_roundw
            case rel => exact ⟨i + 1, by omega, by go_num, HOK2.out (four_ok fun j hj => HCS.out j (by omega)), HB2.out⟩
            case measure => simp [intOf]; omega
      · go_wp2
        go_ret
        exact ⟨retI (HTE.out fun k hk => HOK.out k (by rw [HNL.out] at hk; omega)).symm, hbel⟩
  · have HTF := Lib.hid (tfault_range (ts := ts) (by rw [hnl]; exact h16))
    go_enter Tryd.func22, Tryd.ntmps22
    by_cases hn0 : n < 1
    case' pos => skip
    case' neg => have hn1 : 16 < n := by omega
    all_goals
      go_wp2
      go_ret
      exact ⟨retI HTF.out.symm, Below.refl _ _⟩

set_option maxHeartbeats 2000000 in
theorem rsides_any (a : Option Addr) (n c : Nat) (ts : List Tl) (W H : Int) (w : World) (hT : Tiles w a n ts) :
    Calls Tryd.prog 8 #[.slice a n c, .int .i64 W, .int .i64 H] w fun e w' => e = .returned (.int .i64 (zfault ts [W, H])) ∧ Below w.heap.size w w' := by
  have HT := Lib.hid (rtiles_any a n c ts w hT)
  clear hT
  go_enter Tryd.func8, Tryd.ntmps8
  go_wp2_with fail
  refine HT.out.mono ?_
  rintro e1 w1 ⟨rfl, hb1⟩
  by_cases ht : tfault ts = 0
  · have hz : zfault ts [W, H] = if side W ∧ side H then 0 else 1 := by
      unfold zfault
      rw [if_neg (fun h => h ht)]
      congr 1
      simp
    rw [ht]
    have HZ := Lib.hid hz
    clear hz HT ht
    by_cases hs : side W ∧ side H
    · have HZ1 : Hid (zfault ts [W, H] = 0) := by rw [HZ.out, if_pos hs]; rfl
      obtain ⟨⟨h1, h2⟩, h3, h4⟩ := hs
      go_wp2
      go_ret
      exact ⟨retI HZ1.out.symm, hb1⟩
    · have HZ1 : Hid (zfault ts [W, H] = 1) := by rw [HZ.out, if_neg hs]; rfl
      have hs' : ¬ (1 ≤ W ∧ W ≤ 5 ∧ 1 ≤ H ∧ H ≤ 5) := fun h => hs ⟨⟨h.1, h.2.1⟩, h.2.2⟩
      clear hs
      by_cases h1 : W < 1
      · go_wp2
        go_ret
        exact ⟨retI HZ1.out.symm, hb1⟩
      · by_cases h2 : 5 < W
        · go_wp2
          go_ret
          exact ⟨retI HZ1.out.symm, hb1⟩
        · by_cases h3 : H < 1
          · go_wp2
            go_ret
            exact ⟨retI HZ1.out.symm, hb1⟩
          · have h4 : 5 < H := by omega
            go_wp2
            go_ret
            exact ⟨retI HZ1.out.symm, hb1⟩
  · have hb : (tfault ts == 0) = false := by rw [beq_eq_false_iff_ne]; exact ht
    have HZ := Lib.hid (zfault_tiles (zs := [W, H]) ht)
    clear HT ht
    go_wp2
    go_ret
    exact ⟨retI HZ.out.symm, hb1⟩

set_option maxHeartbeats 2000000 in
/-- Cells, where the sides are right. -/
theorem rcells_any (a : Option Addr) (n c : Nat) (W H : Int) (sa : Option Addr) (sn sc : Nat) (zs : List Int) (w : World) (hsn : zs.length = sn) (hs : sn ≤ maxLen) (hwh : 0 ≤ W * H ∧ W * H ≤ 25) (hZ : Cells w sa sn (fun i => .int .i64 (zs.getD i 0))) :
    Calls Tryd.prog 24 #[.slice a n c, .int .i64 W, .int .i64 H, .slice sa sn sc] w fun e w' => e = .returned (.int .i64 (cfault n (W * H) zs)) ∧ w = w' := by
  have HZ := Lib.hid hZ
  have HSN := Lib.hid hsn
  clear hZ
  obtain ⟨hwh1, hwh2⟩ := hwh
  go_enter Tryd.func24, Tryd.ntmps24
  by_cases hl : (sn : Int) = W * H
  · have hsn25 : sn ≤ 25 := by omega
    have HCF : Hid (cfault n (W * H) zs = if ∀ z ∈ zs, 0 ≤ z ∧ z < (n : Int) then 0 else 1) := by
      unfold cfault
      rw [if_neg (fun h => h (by rw [hsn]; exact hl))]
      rfl
    have hl' : W * H = (sn : Int) := hl.symm
    clear hl hsn
    go_wp2
    go_loop [9] (fun v => ∃ i : Nat, i ≤ sn ∧ v = .int .i64 i ∧ ∀ k, k < i → 0 ≤ zs.getD k 0 ∧ zs.getD k 0 < (n : Int)) (fun v => sn - (intOf v).toNat)
    case atStart => exact ⟨0, Nat.zero_le _, rfl, fun k hk => absurd hk (Nat.not_lt_zero _)⟩
    case round =>
      obtain ⟨i, hi, rfl, hok⟩ := hrel
      have HOK := Lib.hid hok
      clear hok
      by_cases hlt : i < sn
      · obtain ⟨b, off, rfl, hbl, hc⟩ := HZ.out i hlt
        dsimp only at hc
        have HMEM := Lib.hid (int_mem (cs := zs) (k := i) (by rw [HSN.out]; exact hlt))
        have HOK2 : Hid (0 ≤ zs.getD i 0 ∧ zs.getD i 0 < (n : Int) → ∀ k, k < i + 1 → 0 ≤ zs.getD k 0 ∧ zs.getD k 0 < (n : Int)) := fun h k hk => by
          by_cases hki : k = i
          · subst hki; exact h
          · exact HOK.out k (by omega)
        generalize zs.getD i 0 = z at *
        by_cases hz : 0 ≤ z ∧ z < (n : Int)
        · obtain ⟨hz0, hz1⟩ := hz
          go_wp2
          go_round
          case rel => exact ⟨i + 1, by omega, by go_num, HOK2.out ⟨hz0, hz1⟩⟩
          case measure => simp [intOf]; omega
        · have HC1 : Hid (cfault n (W * H) zs = 1) := by rw [HCF.out, if_neg (fun h => hz (h z HMEM.out))]; rfl
          by_cases hz0 : z < 0
          case' pos => skip
          case' neg => have hz1 : (n : Int) ≤ z := by omega
          all_goals
            go_wp2
            go_ret
            exact ⟨retI (by rw [← hl']; exact HC1.out.symm), rfl⟩
      · have HC0 : Hid (cfault n (W * H) zs = 0) := by
          rw [HCF.out, if_pos]
          · rfl
          · exact ints_of_get fun k hk => HOK.out k (by rw [HSN.out] at hk; omega)
        go_wp2
        go_ret
        exact ⟨retI (by rw [← hl']; exact HC0.out.symm), rfl⟩
  · have HCF : Hid (cfault n (W * H) zs = 3) := by
      unfold cfault
      rw [if_pos (by rw [hsn]; exact hl)]
      rfl
    have hl' : ((sn : Int) == W * H) = false := by rw [beq_eq_false_iff_ne]; exact hl
    clear hl hsn
    go_wp2
    go_ret
    exact ⟨retI HCF.out.symm, rfl⟩
end Wg
end Go.Proofs.YthggpjpmjhaidaaDoor
