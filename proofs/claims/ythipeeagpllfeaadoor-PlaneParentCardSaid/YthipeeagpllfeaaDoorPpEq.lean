/- PARENTS: what the program and the document find is one. -/
import Derived.Test.YthipeeagpllfeaaDoorPpRp
import Derived.Test.YthipeeagpllfeaaDoorPnLa
namespace Go.Proofs.YthipeeagpllfeaaDoor
set_option linter.unusedSimpArgs false
set_option linter.unusedVariables false
open Go.RowKit
namespace Pn
open Tld Mem Bl

theorem least_ex (P : Nat → Prop) : ∀ n, ∃ o, Least P n o
  | 0 => ⟨none, fun s hs => absurd hs (Nat.not_lt_zero _)⟩
  | n + 1 => by
    obtain ⟨o, ho⟩ := least_ex P n
    cases o with
    | some s => exact ⟨some s, Nat.lt_succ_of_lt ho.1, ho.2.1, ho.2.2⟩
    | none =>
      by_cases hp : P n
      · exact ⟨some n, Nat.lt_succ_self n, hp, fun s hs => ho s hs⟩
      · refine ⟨none, fun s hs hps => ?_⟩
        rcases Nat.lt_or_eq_of_le (Nat.le_of_lt_succ hs) with h | rfl
        · exact ho s h hps
        · exact hp hps
theorem is_nil (w : World) : Ints.Is w none 0 [] := ⟨rfl, fun i hi => absurd hi (Nat.not_lt_zero _), Nat.zero_le _⟩
theorem parent_two (K B S st ra : Int) (ta : Option Addr) (tn tc : Nat) (tz : List Int) (tu : ByteArray) (W H : Int) (a : Option Addr) (n c : Nat) (zs : List Int) (w : World) (hT : Ints.Is w ta tn tz) (hu : tu.size ≤ 9223372036854775807) (hZ : Ints.Is w a n zs) (h : plf K B S st ra tn tz tu W H zs = 0) (h5 : ¬ (5 < W ∨ 5 < H)) :
    ∃ W1 H1 ev : Int, ∃ z1, ∃ ok : Bool, ((ok = true ∧ ev = 0) ∨ (ok = false ∧ ev = 5)) ∧
      (∀ w2, Below w.heap.size w w2 → Calls Tryd.prog 6 #[.agg #[.int .i64 K, .int .i64 B, .int .i64 S, .int .i64 st, .int .i64 ra, .slice ta tn tc, .string tu], .agg #[.int .i64 W, .int .i64 H, .slice a n c]] w2 fun e w' => (∃ a1 n1 c1, e = .returned (.tuple #[.agg #[.int .i64 W1, .int .i64 H1, .slice a1 n1 c1], .bool ok]) ∧ Ints.Is w' a1 n1 z1 ∧ (∀ b off, a1 = some ⟨b, off, none⟩ → n1 ≠ 0 → w2.heap.size ≤ b)) ∧ Below w2.heap.size w2 w') ∧
      (∀ w2, Below w.heap.size w w2 → Calls Tryd.prog 7 #[.agg #[.int .i64 K, .int .i64 B, .int .i64 S, .int .i64 st, .int .i64 ra, .slice ta tn tc, .string tu], .agg #[.int .i64 W, .int .i64 H, .slice a n c]] w2 fun e w' => (∃ a1 n1 c1, e = .returned (.tuple #[.agg #[.int .i64 W1, .int .i64 H1, .slice a1 n1 c1], errV ev]) ∧ Ints.Is w' a1 n1 z1) ∧ Below w2.heap.size w2 w') := by
  obtain ⟨rfl, hl, hp⟩ := plf_zero h
  obtain ⟨W', H', rfl, rfl, hW, hH, hlen, hzs, hlt⟩ := pfault_zero hp
  obtain ⟨Bn, rfl, hB⟩ := bits_nat hl.b
  obtain ⟨Sn, rfl, hS⟩ := bits_nat hl.s
  have hn := hZ.len
  rw [hzs] at hZ h
  have hnn : n = W' * H' := by rw [← hn]; exact hlen
  obtain ⟨o, ho⟩ := least_ex (CelE (ckP Bn Sn (cel zs W') (W' + 2)) ((W' + 2) * (H' + 2)) 0 0) (2 ^ ((W' + 2) * (H' + 2)))
  have k1 := fun w2 (hw : Below w.heap.size w w2) => rparent_any 1 st ra Bn Sn ta tn tc tu W' H' a n c (cel zs W') ((W' + 2) * (H' + 2)) (2 ^ (2 * (W' + 2) + 2)) (W' + 2) (H' + 2) w2 hB hS rfl rfl rfl rfl (hZ.keep hw) hnn (by omega) (by omega)
  have k2 := fun w2 (hw : Below w.heap.size w w2) => parent_ok 1 st ra Bn Sn ta tn tc tz tu W' H' a n c (cel zs W') (W' + 2) (2 ^ (W' + 2)) w2 hB hS rfl rfl (hT.keep hw) hu (hZ.keep hw) hnn (by omega) (by omega) h
  cases o with
  | none =>
    refine ⟨0, 0, 5, [], false, .inr ⟨rfl, rfl⟩, fun w2 hw => (k1 w2 hw).mono ?_, fun w2 hw => (k2 w2 hw).mono ?_⟩
    · rintro e w' ⟨⟨rfl, _⟩ | ⟨ao, co, N, rfl, hc, _⟩, hb⟩
      · exact ⟨⟨none, 0, 0, rfl, is_nil _, fun b off e => by cases e⟩, hb⟩
      · exact absurd (Least.one ho hc) (by simp)
    · rintro e w' ⟨⟨rfl, _⟩ | ⟨ao, co, N, rfl, hc, _⟩, hb⟩
      · exact ⟨⟨none, 0, 0, rfl, is_nil _⟩, hb⟩
      · exact absurd (parents_one hc ho) (by simp)
  | some M =>
    refine ⟨((W' + 2 : Nat) : Int), ((H' + 2 : Nat) : Int), 0, cellsN ((W' + 2) * (H' + 2)) M, true, .inl ⟨rfl, rfl⟩, fun w2 hw => (k1 w2 hw).mono ?_, fun w2 hw => (k2 w2 hw).mono ?_⟩
    · rintro e w' ⟨⟨rfl, hc⟩ | ⟨ao, co, N, rfl, hc, hi, _, hab⟩, hb⟩
      · exact absurd (Least.one ho hc) (by simp)
      · obtain rfl : M = N := Option.some.inj (Least.one ho hc)
        exact ⟨⟨ao, _, co, rfl, hi, fun b off e _ => hab b off e⟩, hb⟩
    · rintro e w' ⟨⟨rfl, hc⟩ | ⟨ao, co, N, rfl, hc, hi, _⟩, hb⟩
      · exact absurd (parents_one hc ho) (by simp)
      · obtain rfl : N = M := Option.some.inj (parents_one hc ho)
        rw [Nat.mul_comm (H' + 2) (W' + 2)] at hi ⊢
        exact ⟨⟨ao, _, co, rfl, hi⟩, hb⟩
end Pn
end Go.Proofs.YthipeeagpllfeaaDoor
