/- THE LAW PlaneEden: a garden of Eden has nothing ahead of it: what is found, and what the walk wants. -/
import Derived.Test.YthipeeagpllfeaaDoorPpEw
import Derived.Test.YthipeeagpllfeaaDoorPnX
namespace Go.Proofs.YthipeeagpllfeaaDoor
set_option linter.unusedSimpArgs false
set_option linter.unusedVariables false
open Go.RowKit
namespace Pn
open Tld Mem Bl

theorem pfault_lay {W H : Nat} {c : Nat → Nat → Nat} (hW : W ≤ 100) (hH : H ≤ 100) (h : ∀ x y, c x y < 2) : pfault W H (flat W H c) = 0 := by
  unfold pfault
  have h1 : okSides (W : Int) (H : Int) := by unfold okSides; omega
  have h2 : ((flat W H c).length : Int) = (W : Int) * (H : Int) := by rw [flat_len]; push_cast; rfl
  have h3 : ¬ (flat W H c).any cbad = true := by
    rw [Bool.not_eq_true, List.any_eq_false]
    intro z hz
    unfold flat at hz
    obtain ⟨k, _, rfl⟩ := List.mem_map.1 hz
    have := h (k % W) (k / W)
    unfold cbad
    simp
    omega
  rw [if_neg (fun x => x h1), if_neg (fun x => x h2), if_neg h3]
theorem plf_like {K B S st ra : Int} {tn : Nat} {tz : List Int} {tu : ByteArray} {W H W' H' : Int} {zs zs' : List Int} (h : plf K B S st ra tn tz tu W H zs = 0) (hp : pfault W' H' zs' = 0) : plf K B S st ra tn tz tu W' H' zs' = 0 := by
  have hk := (plf_zero h).1
  unfold plf at h ⊢
  by_cases h1 : rulf K B S st ra tn tz tu = 0
  · rw [if_neg (fun x => x h1), if_neg (fun x => x hp), if_neg (fun x => x hk)]
  · rw [if_pos h1] at h; exact absurd h h1
theorem least_ex (P : Nat → Prop) : ∀ n, ∃ o, Least P n o
  | 0 => ⟨none, fun s hs => absurd hs (Nat.not_lt_zero _)⟩
  | n + 1 => by
    obtain ⟨o, ho⟩ := least_ex P n
    cases o with
    | some s => exact ⟨some s, Nat.lt_succ_of_lt ho.1, ho.2.1, ho.2.2⟩
    | none =>
      by_cases hp : P n
      · exact ⟨some n, Nat.lt_succ_self n, hp, fun s hs => ho s hs⟩
      · refine ⟨none, fun s hs hps => ?_⟩
        rcases Nat.lt_or_eq_of_le (Nat.le_of_lt_succ hs) with h | rfl
        · exact ho s h hps
        · exact hp hps
theorem is_nil (w : World) : Ints.Is w none 0 [] := ⟨rfl, fun i hi => absurd hi (Nat.not_lt_zero _), Nat.zero_le _⟩
theorem plf_small (K B S st ra : Int) (tn : Nat) (tz : List Int) (tu : ByteArray) (W H : Int) (zs : List Int) : plf K B S st ra tn tz tu W H zs = 0 ∨ plf K B S st ra tn tz tu W H zs = 1 ∨ plf K B S st ra tn tz tu W H zs = 3 := by
  have hr : rulf K B S st ra tn tz tu = 0 ∨ rulf K B S st ra tn tz tu = 1 := by
    unfold rulf
    split
    · by_cases h : Ln.Ok 2 B S st ra tz tu
      · exact .inl (Ln.lfault_ok h)
      · exact .inr (Ln.lfault_no h)
    · exact Ln.ofault_01 K B S st ra tn tu
  have hp : pfault W H zs = 0 ∨ pfault W H zs = 1 ∨ pfault W H zs = 3 := by
    unfold pfault
    split
    · exact .inr (.inl rfl)
    · split
      · exact .inr (.inr rfl)
      · split
        · exact .inr (.inl rfl)
        · exact .inl rfl
  unfold plf
  split
  · omega
  · split
    · omega
    · split <;> omega
/-- Nothing is found: nothing makes it. -/
theorem row_not {B S W H : Nat} {f : Nat → Nat → Nat} {g : Nat → Nat} (hg : ∀ j, g j < 2) (h : RowF (mkI B S f (W + 2) W) (2 ^ (W + 2)) (H + 2) 0 0 0 none) : ¬ MadeAll B S g (W + 2) f W H := fun hall => by
  have hN := nb_lt hg ((W + 2) * (H + 2))
  have h1 := (makes_mid (B := B) (S := S) (p := f) rfl (nb_bt hg ((W + 2) * (H + 2)))).2 hall
  exact h _ (by rw [← Nat.pow_mul]; exact hN) ((row_makes hN).2 h1)
/-- What is found makes it. -/
theorem row_yes {B S W H N : Nat} {f : Nat → Nat → Nat} (h : RowF (mkI B S f (W + 2) W) (2 ^ (W + 2)) (H + 2) 0 0 0 (some N)) : MadeAll B S (fun j => bt N ((W + 2) * (H + 2) - 1 - j)) (W + 2) f W H := by
  have hN : N < 2 ^ ((W + 2) * (H + 2)) := by rw [Nat.pow_mul]; exact h.1
  exact (makes_mid (B := B) (S := S) (p := f) rfl (fun j _ => rfl)).1 ((row_makes hN).1 h.2.1)
/-- What a pattern makes in its middle, on rings too. -/
theorem tor_mid {B S W H : Nat} {f : Nat → Nat → Nat} : MadeAll B S (fun j => f (j % (W + 2)) (j / (W + 2))) (W + 2) (fun x y => tor B S (W + 2) (H + 2) f (x + 1) (y + 1)) W H := fun x y hx hy => by
  have G : ∀ d e, d ≤ 2 → e ≤ 2 → (fun j => f (j % (W + 2)) (j / (W + 2))) ((y + d) * (W + 2) + x + e) = f (x + e) (y + d) := fun d e hd he => by
    show f (((y + d) * (W + 2) + x + e) % (W + 2)) (((y + d) * (W + 2) + x + e) / (W + 2)) = _
    rw [Nat.add_assoc, (place (w := W + 2) (x := x + e) (y := y + d) (by omega)).1, (place (w := W + 2) (x := x + e) (y := y + d) (by omega)).2]
  have hs : mS (fun j => f (j % (W + 2)) (j / (W + 2))) (W + 2) x y 9 = 0 + f (x + 0) (y + 0) + f (x + 1) (y + 0) + f (x + 2) (y + 0) + f (x + 0) (y + 1) + 0 + f (x + 2) (y + 1) + f (x + 0) (y + 2) + f (x + 1) (y + 2) + f (x + 2) (y + 2) := by
    rw [← G 0 0 (by decide) (by decide), ← G 0 1 (by decide) (by decide), ← G 0 2 (by decide) (by decide), ← G 1 0 (by decide) (by decide), ← G 1 2 (by decide) (by decide), ← G 2 0 (by decide) (by decide), ← G 2 1 (by decide) (by decide), ← G 2 2 (by decide) (by decide)]
    rfl
  have m0 : ∀ v M : Nat, v < M → (v + 1 + 0 + M - 1) % M = v := fun v M h => by rw [show v + 1 + 0 + M - 1 = v + M by omega, Nat.add_mod_right, Nat.mod_eq_of_lt h]
  have m1 : ∀ v M : Nat, v + 1 < M → (v + 1 + 1 + M - 1) % M = v + 1 := fun v M h => by rw [show v + 1 + 1 + M - 1 = v + 1 + M by omega, Nat.add_mod_right, Nat.mod_eq_of_lt h]
  have m2 : ∀ v M : Nat, v + 2 < M → (v + 1 + 2 + M - 1) % M = v + 2 := fun v M h => by rw [show v + 1 + 2 + M - 1 = v + 2 + M by omega, Nat.add_mod_right, Nat.mod_eq_of_lt h]
  show midV B S _ (W + 2) x y = tor B S (W + 2) (H + 2) f (x + 1) (y + 1)
  unfold midV tor nineT
  rw [hs, show (y + 1) * (W + 2) + x + 1 = (y + 1) * (W + 2) + x + 1 from rfl, G 1 1 (by decide) (by decide)]
  rw [m0 x (W + 2) (by omega), m1 x (W + 2) (by omega), m2 x (W + 2) (by omega), m0 y (H + 2) (by omega), m1 y (H + 2) (by omega), m2 y (H + 2) (by omega), Nat.add_zero, Nat.add_zero]
  congr 1
  simp only [Nat.add_zero, Nat.zero_add]
  omega
theorem cellsN_lst (W H N : Nat) : cellsN ((H + 2) * (W + 2)) N = lstN ((W + 2) * (H + 2)) (fun j => bt N ((W + 2) * (H + 2) - 1 - j)) := by
  rw [Nat.mul_comm]
  rfl
/-- A parent that is found is one, as the document says. -/
theorem made_found (K st ra : Int) (B S : Nat) (ta : Option Addr) (tn tc : Nat) (tu : ByteArray) (W H N : Nat) (a : Option Addr) (n c : Nat) (f : Nat → Nat → Nat) (a1 : Option Addr) (n1 c1 : Nat) (w : World) (hBS : B < 512) (hSS : S < 512) (hZ : Ints.Is w a n (flat W H f)) (hn : n = W * H) (hW : W ≤ 5) (hH : H ≤ 5) (hR : RowF (mkI B S f (W + 2) W) (2 ^ (W + 2)) (H + 2) 0 0 0 (some N)) (h1 : Ints.Is w a1 n1 (cellsN ((H + 2) * (W + 2)) N)) :
    Calls Tryd.prog 11 #[.agg #[.int .i64 K, .int .i64 B, .int .i64 S, .int .i64 st, .int .i64 ra, .slice ta tn tc, .string tu], .agg #[.int .i64 ((W + 2 : Nat) : Int), .int .i64 ((H + 2 : Nat) : Int), .slice a1 n1 c1], .agg #[.int .i64 W, .int .i64 H, .slice a n c]] w fun e w' => e = .returned (.bool true) ∧ Below w.heap.size w w' := by
  rw [cellsN_lst] at h1
  have hl : n1 = (W + 2) * (H + 2) := by rw [← h1.len, lstN_len]
  subst hl
  refine (made_ok K st ra B S ta tn tc tu W H a n c f (W + 2) (H + 2) _ a1 c1 _ w hBS hSS rfl rfl rfl hZ hn hW hH h1 (fun j => bt_lt _ _)).mono ?_
  rintro e w' ⟨⟨rfl, _⟩ | ⟨_, hno⟩, hb⟩
  · exact ⟨rfl, hb⟩
  · exact absurd (row_yes hR) hno
theorem planeEden_any (K B S st ra : Int) (ta : Option Addr) (tn tc : Nat) (tz : List Int) (tu : ByteArray) (W H : Int) (a : Option Addr) (n c : Nat) (zs : List Int) (X Y : Int) (d : Option Addr) (k e : Nat) (ys : List Int) (w : World) (hL : Tld.Laid w) (hT : Ints.Is w ta tn tz) (hu : tu.size ≤ 9223372036854775807) (hZ : Ints.Is w a n zs) (hQ : Ints.Is w d k ys) :
    Calls Tryd.prog 4 #[.agg #[.int .i64 K, .int .i64 B, .int .i64 S, .int .i64 st, .int .i64 ra, .slice ta tn tc, .string tu], .agg #[.int .i64 W, .int .i64 H, .slice a n c], .agg #[.int .i64 X, .int .i64 Y, .slice d k e]] w fun e w' => e = .returned (.bool true) ∧ Below w.heap.size w w' := by
  have hk := hQ.len
  -- the second half
  have tail := eden_walk K B S st ra ta tn tc tu W H a n c X Y d k e ys w
  have kt : _ := fun (fv : Value) (W1 H1 : Int) (z1 : List Int) (isn : Bool) k2 kd => tail fv W1 H1 z1 isn hL hQ k2 kd (by
    by_cases hq : plf K B S st ra tn tz tu X Y ys = 0
    · obtain ⟨rfl, hl, hpq⟩ := plf_zero hq
      obtain ⟨X', Y', rfl, rfl, hX, hY, hlen, hys, hlt⟩ := pfault_zero hpq
      obtain ⟨Bn, rfl, hB⟩ := bits_nat hl.b
      obtain ⟨Sn, rfl, hS⟩ := bits_nat hl.s
      have hkk : k = X' * Y' := by rw [← hk]; exact hlen
      have hQ' := hQ
      rw [hys] at hQ' hq
      have kto := fun w2 (hw : Below w.heap.size w w2) => Torus_ok 1 st ra Bn Sn ta tn tc tz tu X' Y' d k e (cel ys X') w2 hB hS (hT.keep hw) hu (hQ'.keep hw) hkk (by omega) (by omega) hlt hq
      by_cases hr : X' < 2 ∨ Y' < 2 ∨ 7 < X' ∨ 7 < Y'
      · exact .inr (.inl ⟨X', Y', k, _, hr, kto⟩)
      · obtain ⟨W2, rfl⟩ : ∃ W2, X' = W2 + 2 := ⟨X' - 2, by omega⟩
        obtain ⟨H2, rfl⟩ : ∃ H2, Y' = H2 + 2 := ⟨Y' - 2, by omega⟩
        have hW2 : W2 ≤ 5 := by omega
        have hH2 : H2 ≤ 5 := by omega
        have hfm : ∀ x y, (fun x y => tor Bn Sn (W2 + 2) (H2 + 2) (cel ys (W2 + 2)) (x + 1) (y + 1)) x y < 2 := fun x y => tor_lt _ _ _ _ _ _ _
        obtain ⟨fm, hfme⟩ : ∃ fm : Nat → Nat → Nat, fm = fun x y => tor Bn Sn (W2 + 2) (H2 + 2) (cel ys (W2 + 2)) (x + 1) (y + 1) := ⟨_, rfl⟩
        rw [← hfme] at hfm
        have hpm : plf 1 Bn Sn st ra tn tz tu W2 H2 (flat W2 H2 fm) = 0 := plf_like hq (pfault_lay (by omega) (by omega) hfm)
        obtain ⟨o, ho⟩ := least_ex (RowE (mkI Bn Sn fm (W2 + 2) W2) (2 ^ (W2 + 2)) (H2 + 2) 0 0 0) ((2 ^ (W2 + 2)) ^ (H2 + 2))
        cases o with
        | none =>
          exact absurd (by rw [hfme]; exact tor_mid) (row_not (fun j => hlt (j % (W2 + 2)) (j / (W2 + 2))) ho)
        | some N =>
          refine .inr (.inr ⟨W2 + 2, H2 + 2, k, W2, H2, _, fm, ((W2 + 2 : Nat) : Int), ((H2 + 2 : Nat) : Int), cellsN ((H2 + 2) * (W2 + 2)) N, rfl, rfl, hW2, hH2, hkk, fun x y hx hy => ?_, kto, fun w2 am cm hw hcm hi => ?_, fun w2 am cm a3 n3 c3 hw hi h3 => ?_⟩)
          · show tor Bn Sn (W2 + 2) (H2 + 2) (cel ys (W2 + 2)) (((y + 1) * (W2 + 2) + 1 + x) % (W2 + 2)) (((y + 1) * (W2 + 2) + 1 + x) / (W2 + 2)) = fm x y
            rw [Nat.add_assoc, Nat.add_comm 1 x, (place (w := W2 + 2) (x := x + 1) (y := y + 1) (by omega)).1, (place (w := W2 + 2) (x := x + 1) (y := y + 1) (by omega)).2, hfme]
          · refine (parent_ok 1 st ra Bn Sn ta tn tc tz tu W2 H2 am (W2 * H2) cm fm (W2 + 2) (2 ^ (W2 + 2)) w2 hB hS rfl rfl (hT.keep hw) hu hi rfl hW2 hH2 hpm).mono ?_
            rintro e1 w' ⟨⟨rfl, hno⟩ | ⟨ao, co, M, rfl, hR, hi3, _⟩, hb⟩
            · exact absurd (Least.one ho hno) (by simp)
            · obtain rfl : N = M := Option.some.inj (Least.one ho hR)
              exact ⟨⟨ao, _, co, rfl, hi3⟩, hb⟩
          · exact made_found 1 st ra Bn Sn ta tn tc tu W2 H2 N am (W2 * H2) cm fm a3 n3 c3 w2 hB hS hi rfl hW2 hH2 ho h3
    · exact .inl ⟨plf K B S st ra tn tz tu X Y ys, hq, fun w2 hw => Torus_bad K B S st ra ta tn tc tz tu X Y d k e ys w2 (hT.keep hw) hu (hQ.keep hw) hq⟩)
  clear tail
  have hn := hZ.len
  by_cases hp : plf K B S st ra tn tz tu W H zs = 0
  · by_cases h5 : 5 < W ∨ 5 < H
    · refine kt (errV 4) 0 0 [] false (fun w2 hw => ?_) (.inr ⟨rfl, 4, by decide, by decide, rfl, fun h => absurd h (by decide)⟩)
      exact (parent_full K B S st ra ta tn tc tz tu W H a n c zs w2 (hT.keep hw) hu (hZ.keep hw) hp h5).mono fun ee w' h => ⟨⟨none, 0, 0, h.1, is_nil _⟩, h.2⟩
    · obtain ⟨rfl, hl, hpp⟩ := plf_zero hp
      obtain ⟨W', H', rfl, rfl, hW, hH, hlen, hzs, hlt⟩ := pfault_zero hpp
      obtain ⟨Bn, rfl, hB⟩ := bits_nat hl.b
      obtain ⟨Sn, rfl, hS⟩ := bits_nat hl.s
      have hnn : n = W' * H' := by rw [← hn]; exact hlen
      have hW5 : W' ≤ 5 := by omega
      have hH5 : H' ≤ 5 := by omega
      rw [hzs] at hZ hp
      have kp := fun w2 (hw : Below w.heap.size w w2) => parent_ok 1 st ra Bn Sn ta tn tc tz tu W' H' a n c (cel zs W') (W' + 2) (2 ^ (W' + 2)) w2 hB hS rfl rfl (hT.keep hw) hu (hZ.keep hw) hnn hW5 hH5 hp
      obtain ⟨o, ho⟩ := least_ex (RowE (mkI Bn Sn (cel zs W') (W' + 2) W') (2 ^ (W' + 2)) (H' + 2) 0 0 0) ((2 ^ (W' + 2)) ^ (H' + 2))
      cases o with
      | none =>
        refine kt (errV 5) 0 0 [] false (fun w2 hw => (kp w2 hw).mono ?_) (.inr ⟨rfl, 5, by decide, by decide, rfl, fun _ hs w2 hw => ?_⟩)
        · rintro e1 w' ⟨⟨rfl, _⟩ | ⟨ao, co, M, rfl, hR, _⟩, hb⟩
          · exact ⟨⟨none, 0, 0, rfl, is_nil _⟩, hb⟩
          · exact absurd (Least.one ho hR) (by simp)
        · obtain ⟨X', Y', rfl, rfl, hX, hY, hlen2, hys, hlt2⟩ := pfault_zero hs
          have hkk : k = X' * Y' := by rw [← hk]; exact hlen2
          by_cases hsh : X' = W' + 2 ∧ Y' = H' + 2
          · obtain ⟨rfl, rfl⟩ := hsh
            subst hkk
            have hQ' := hQ
            rw [hys] at hQ'
            refine (made_ok 1 st ra Bn Sn ta tn tc tu W' H' a n c (cel zs W') (W' + 2) (H' + 2) _ d e (fun j => cel ys (W' + 2) (j % (W' + 2)) (j / (W' + 2))) w2 hB hS rfl rfl rfl (hZ.keep hw) hnn hW5 hH5 (hQ'.keep hw) (fun j => hlt2 _ _)).mono ?_
            rintro e1 w' ⟨⟨_, hall⟩ | ⟨rfl, _⟩, hb⟩
            · exact absurd hall (row_not (fun j => hlt2 (j % (W' + 2)) (j / (W' + 2))) ho)
            · exact ⟨rfl, hb⟩
          · exact made_no 1 Bn Sn st ra ta tn tc tu W' H' a n c X' Y' k d e w2 hW5 hH5 (by
              by_cases h1 : X' = W' + 2
              · exact .inr (fun h => hsh ⟨h1, by omega⟩)
              · exact .inl (fun h => h1 (by omega)))
      | some N =>
        refine kt .nilIface ((W' + 2 : Nat) : Int) ((H' + 2 : Nat) : Int) (cellsN ((H' + 2) * (W' + 2)) N) true (fun w2 hw => (kp w2 hw).mono ?_) (.inl ⟨rfl, rfl, fun w2 a1 n1 c1 hw h1 => ?_⟩)
        · rintro e1 w' ⟨⟨rfl, hno⟩ | ⟨ao, co, M, rfl, hR, hi3, _⟩, hb⟩
          · exact absurd (Least.one ho hno) (by simp)
          · obtain rfl : N = M := Option.some.inj (Least.one ho hR)
            exact ⟨⟨ao, _, co, rfl, hi3⟩, hb⟩
        · exact made_found 1 st ra Bn Sn ta tn tc tu W' H' N a n c (cel zs W') a1 n1 c1 w2 hB hS (hZ.keep hw) hnn hW5 hH5 ho h1
  · have hsm := plf_small K B S st ra tn tz tu W H zs
    refine kt (errV (plf K B S st ra tn tz tu W H zs)) 0 0 [] false (fun w2 hw => ?_) (.inr ⟨rfl, _, hp, by omega, rfl, fun h => by omega⟩)
    exact (parent_bad K B S st ra ta tn tc tz tu W H a n c zs w2 (hT.keep hw) hu (hZ.keep hw) hp).mono fun ee w' h => ⟨⟨none, 0, 0, h.1, is_nil _⟩, h.2⟩
end Pn
end Go.Proofs.YthipeeagpllfeaaDoor
