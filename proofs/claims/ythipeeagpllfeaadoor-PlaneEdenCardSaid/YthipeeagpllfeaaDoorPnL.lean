/- WALK: edenref1.Alike; the closed fact of the laws of planes. -/
import Derived.Test.YthipeeagpllfeaaDoorPnX
import Derived.Test.YthipeeagpllfeaaDoorInts
namespace Go.Proofs.YthipeeagpllfeaaDoor
set_option linter.unusedSimpArgs false
set_option linter.unusedVariables false
open Go.RowKit Go.Lib
namespace Pn
open Tld Mem Bl

set_option maxHeartbeats 4000000 in
theorem alike_any (W1 H1 : Int) (a1 : Option Addr) (n1 c1 : Nat) (z1 : List Int) (W2 H2 : Int) (a2 : Option Addr) (n2 c2 : Nat) (z2 : List Int) (w : World) (h1 : Ints.Is w a1 n1 z1) (h2 : Ints.Is w a2 n2 z2) :
    Calls Tryd.prog 9 #[pat W1 H1 a1 n1 c1, pat W2 H2 a2 n2 c2] w fun e w' => e = .returned (.bool (decide (z1 = z2 ∧ W1 = W2 ∧ H1 = H2))) ∧ Below w.heap.size w w' := by
  have HI := Lib.hid (fun w2 : World => fun hb : Below w.heap.size w w2 => Ints.ints_any a1 a2 n1 n2 c1 c2 z1 z2 w2 (h1.keep hb) (h2.keep hb))
  clear h1 h2
  unfold pat
  obtain ⟨q, hq⟩ : ∃ q, q = decide (z1 = z2) := ⟨_, rfl⟩
  have HR : Hid (decide (z1 = z2 ∧ W1 = W2 ∧ H1 = H2) = (q && (decide (W1 = W2) && decide (H1 = H2)))) := by
    show _ = _
    rw [hq, Bool.decide_and, Bool.decide_and]
  rw [← hq] at HI
  clear hq
  have hd : q = false ∨ (q = true ∧ W1 ≠ W2) ∨ (q = true ∧ W1 = W2 ∧ H1 ≠ H2) ∨ (q = true ∧ W1 = W2 ∧ H1 = H2) := by
    cases q
    · exact .inl rfl
    · by_cases h1 : W1 = W2
      · by_cases h2 : H1 = H2
        · exact .inr (.inr (.inr ⟨rfl, h1, h2⟩))
        · exact .inr (.inr (.inl ⟨rfl, h1, h2⟩))
      · exact .inr (.inl ⟨rfl, h1⟩)
  obtain ⟨b, hb⟩ : ∃ b, b = (q && (decide (W1 = W2) && decide (H1 = H2))) := ⟨_, rfl⟩
  rw [← hb] at HR
  have HB := Lib.hid hb
  clear hb
  rcases hd with rfl | ⟨rfl, hw⟩ | ⟨rfl, rfl, hh⟩ | ⟨rfl, rfl, rfl⟩
  all_goals
    first | (have hw2 : (W1 == W2) = false := by rw [beq_eq_false_iff_ne]; exact hw) | skip
    first | (have hh2 : (H1 == H2) = false := by rw [beq_eq_false_iff_ne]; exact hh) | skip
    go_enter Tryd.func9, Tryd.ntmps9
    go_wp2_with fail
    refine (HI.out _ (((Below.refl _ _).alloc (Nat.le_refl _) _).alloc (by simp) _)).mono ?_
    rintro e1 w1 ⟨rfl, hb1⟩
    obtain ⟨hR2, hR3, hB⟩ := two_new w 26 26 (boxP _ _ a1 n1 c1) (boxP _ _ a2 n2 c2)
    have hR2' := hR2.keep hb1 hR2.lt
    have hR3' := hR3.keep hb1 hR3.lt
    have HBE := Lib.hid (hB.trans (hb1.mono hB.size))
    clear hR2 hR3 hb1 hB
    have f0 := hR2'.cell 0
    have f1 := hR2'.cell 1
    have g0 := hR3'.cell 0
    have g1 := hR3'.cell 1
    unfold boxP at f0 f1 g0 g1
    dsimp only [List.getElem?_cons_succ, List.getElem?_cons_zero] at f0 f1 g0 g1
    clear hR2' hR3'
    go_wp2_with fail
    go_ret
    refine ⟨?_, HBE.out⟩
    rw [HR.out, HB.out]
    simp [*]

def thr : Nat → Nat → Nat := fun _ _ => 1
theorem thr_flat : flat 3 1 thr = [1, 1, 1] := by decide
theorem thr_next : Held (far 8 12 (ext 3 1 thr) 1) 1 3 (fun x y => nx 8 12 (ext 3 1 thr) (0 - 1 + ((2 + x : Nat) : Int)) (0 - 1 + ((0 + y : Nat) : Int))) (0 - 1 + (2 : Nat)) (0 - 1 + (0 : Nat)) := by
  have hl := lies_near (B := 8) (S := 12) (by decide) (lies_ext (W := 3) (H := 1) (c := thr))
  have hin : ∀ x : Fin 5, ∀ y : Fin 3, nx 8 12 (ext 3 1 thr) (0 - 1 + ((x.val : Nat) : Int)) (0 - 1 + ((y.val : Nat) : Int)) ≠ 0 → x.val = 2 := by decide +kernel
  have hon : ∀ y : Fin 3, nx 8 12 (ext 3 1 thr) (0 - 1 + ((2 : Nat) : Int)) (0 - 1 + ((y.val : Nat) : Int)) ≠ 0 := by decide +kernel
  have hg : GBox 5 3 (fun x y => nx 8 12 (ext 3 1 thr) (0 - 1 + (x : Int)) (0 - 1 + (y : Int))) 2 0 2 2 :=
    ⟨⟨Nat.le_refl _, by decide⟩, ⟨Nat.zero_le _, by decide⟩, fun x y hx hy h => by have := hin ⟨x, hx⟩ ⟨y, hy⟩ h; dsimp only at this; omega,
      ⟨0, by decide, hon ⟨0, by decide⟩⟩, ⟨0, by decide, hon ⟨0, by decide⟩⟩, ⟨2, by decide, hon ⟨0, by decide⟩⟩, ⟨2, by decide, hon ⟨2, by decide⟩⟩⟩
  exact hl.held hg
theorem thr_plf : plf ((1 : Nat) : Int) ((8 : Nat) : Int) ((12 : Nat) : Int) 0 0 0 [] ⟨#[]⟩ ((3 : Nat) : Int) ((1 : Nat) : Int) (flat 3 1 thr) = 0 := by
  have h1 : rulf ((1 : Nat) : Int) ((8 : Nat) : Int) ((12 : Nat) : Int) 0 0 0 [] ⟨#[]⟩ = 0 := by
    unfold rulf
    rw [if_neg (by decide)]
    exact Ln.ofault_ok1 ⟨by decide, by decide, rfl, rfl, rfl, rfl⟩
  have h2 : pfault ((3 : Nat) : Int) ((1 : Nat) : Int) (flat 3 1 thr) = 0 := by decide
  unfold plf
  rw [if_neg (fun x => x h1), if_neg (fun x => x h2), if_neg (by decide)]
set_option maxHeartbeats 8000000 in
set_option maxRecDepth 1000000 in
theorem lives_any (w : World) : Calls Tryd.prog 10 #[] w fun e w' => e = .returned (.bool true) ∧ Below w.heap.size w w' := by
  go_enter Tryd.func10, Tryd.ntmps10
  go_upto_region 2 with fail
  have hr1 : Row (w.alloc (.cells #[.int .i64 1, .int .i64 8, .int .i64 12, .int .i64 0, .int .i64 0, .slice none 0 0, .string ⟨#[]⟩] 24)) w.heap.size 24 (rulP 1 8 12 0 0 none 0 0 ⟨#[]⟩) := row_alloc w _ _
  have hb1 : Below w.heap.size w (w.alloc (.cells #[.int .i64 1, .int .i64 8, .int .i64 12, .int .i64 0, .int .i64 0, .slice none 0 0, .string ⟨#[]⟩] 24)) := (Below.refl _ _).alloc (Nat.le_refl _) _
  have HU := Lib.hid hr1
  have HB := Lib.hid hb1
  clear hr1 hb1
  generalize w.alloc (.cells #[.int .i64 1, .int .i64 8, .int .i64 12, .int .i64 0, .int .i64 0, .slice none 0 0, .string ⟨#[]⟩] 24) = w1 at *
  obtain ⟨ub, hub⟩ : ∃ ub, ub = w.heap.size := ⟨_, rfl⟩
  rw [← hub] at HU ⊢
  clear hub
  have l5 := row_range HU.out
  go_wp2_with (refine wpList_load_mid rfl 24 _ rfl ub 0 rfl _ _ l5 Tryd.underlying24 rfl infoRule ?_)
  have hr2 : Row (w1.alloc (.cells #[.int .i64 1, .int .i64 1, .int .i64 1] 3)) w1.heap.size 3 [.int .i64 1, .int .i64 1, .int .i64 1] := row_alloc w1 _ _
  have hb2 : Below w1.heap.size w1 (w1.alloc (.cells #[.int .i64 1, .int .i64 1, .int .i64 1] 3)) := (Below.refl _ _).alloc (Nat.le_refl _) _
  have hvec : Vec (w1.alloc (.cells #[.int .i64 1, .int .i64 1, .int .i64 1] 3)) w1.heap.size 3 (fun k => thr (k % 3) (k / 3)) := ⟨⟨_, hr2, fun k hk => by
    rcases (show k = 0 ∨ k = 1 ∨ k = 2 by omega) with rfl | rfl | rfl <;> rfl⟩⟩
  have HB := Lib.hid (HB.out.trans (hb2.mono HB.out.size))
  refine (grow_ok ((1 : Nat) : Int) 0 0 8 12 none 0 0 [] ⟨#[]⟩ 3 1 (some ⟨w1.heap.size, 0, none⟩) 3 3 thr 1 (w1.alloc (.cells #[.int .i64 1, .int .i64 1, .int .i64 1] 3)) (by decide) (by decide) (by decide) (Ints.Is.nil _) (by decide) (hvec.flat rfl (by decide)) rfl (Nat.le_refl _) (by decide) (by decide) (fun _ _ => Nat.lt_succ_self 1) thr_plf (by decide)).mono ?_
  rintro e3 w3 ⟨h, hb3⟩
  have HB := Lib.hid (HB.out.trans (hb3.mono HB.out.size))
  clear hr2 hb2 hvec hb3 l5
  rcases h with ⟨_, m, hm, _, hbig⟩ | ⟨_, _, hd⟩ | ⟨Wg, Hg, ag, ng, cg, Xg, Yg, rfl, fg, ⟨_, hh⟩, _, hng, _⟩
  · obtain rfl : m = 0 := by omega
    exact absurd hbig (thr_next.not_big (by decide) (by decide))
  · exact absurd (thr_next.dead.2 hd) (by decide)
  · have hu := thr_next.unique hh
    have hxy := hu.2.2.2 (by decide)
    obtain rfl : Wg = 1 := hu.1.symm
    obtain rfl : Hg = 3 := hu.2.1.symm
    obtain rfl : Xg = 1 := by have := hxy.1; omega
    obtain rfl : Yg = -1 := by have := hxy.2; omega
    obtain rfl : ng = 3 := by omega
    clear hu hxy hh hng
    have hq : Row (w3.alloc (.cells #[.int .i64 ((1 : Nat) : Int), .int .i64 ((3 : Nat) : Int), .slice ag 3 cg] 26)) w3.heap.size 26 (boxP ((1 : Nat) : Int) ((3 : Nat) : Int) ag 3 cg) := row_alloc w3 _ _
    have hb4 : Below w3.heap.size w3 (w3.alloc (.cells #[.int .i64 ((1 : Nat) : Int), .int .i64 ((3 : Nat) : Int), .slice ag 3 cg] 26)) := (Below.refl _ _).alloc (Nat.le_refl _) _
    have HB := Lib.hid (HB.out.trans (hb4.mono HB.out.size))
    clear hb4
    go_wp2_with fail
    go_ret
    exact ⟨rfl, HB.out⟩
end Pn
end Go.Proofs.YthipeeagpllfeaaDoor
