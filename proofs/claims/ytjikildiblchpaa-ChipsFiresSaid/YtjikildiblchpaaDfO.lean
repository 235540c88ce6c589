/- WALK of the document's answer: edenref6.outer, Burns. -/
import Derived.Test.YtjikildiblchpaaDfB
import Derived.Test.YtjikildiblchpaaChS
namespace Go.Proofs.Ytjikildiblchpaa
set_option linter.unusedSimpArgs false
set_option linter.unusedVariables false
open Go.RowKit Go.Lib
namespace Ch
open Tld Mem Rt

/-- What outer counts. -/
def outN (p : Nat) (f : Nat → Nat → Int) (m k : Nat) (S : Nat → Bool) (q : Bool) (n : Nat) : Nat := sumN (fun o => if o ≠ k ∧ S o = q then btw f k o m else 0) n
theorem outN_out {p m k : Nat} {f : Nat → Nat → Int} {S : Nat → Bool} (h0 : btw f k k m = 0) : outN p f m k S false p = outS p (fun a b => btw f a b m) S k := by
  unfold outN outS
  refine sumN_congr fun o _ => ?_
  by_cases e : o = k
  · subst e
    rw [if_neg (fun h => h.1 rfl)]
    split
    · rfl
    · exact h0.symm
  · by_cases hs : S o = true
    · rw [if_neg (fun h => by rw [hs] at h; cases h.2), if_pos hs]
    · rw [if_pos (show o ≠ k ∧ S o = false from ⟨e, by cases h : S o; rfl; exact absurd h hs⟩), if_neg hs]
theorem outN_in {p m k : Nat} {f : Nat → Nat → Int} {S : Nat → Bool} (h0 : btw f k k m = 0) : outN p f m k S true p = inS p (fun a b => btw f a b m) S k := by
  unfold outN inS
  refine sumN_congr fun o _ => ?_
  by_cases e : o = k
  · subst e
    rw [if_neg (fun h => h.1 rfl)]
    split
    · exact h0.symm
    · rfl
  · by_cases hs : S o = true
    · rw [if_pos (show o ≠ k ∧ S o = true from ⟨e, hs⟩), if_pos hs]
    · rw [if_neg (fun h => hs h.2), if_neg hs]
theorem outN_le {p m k : Nat} {f : Nat → Nat → Int} {S : Nat → Bool} {q : Bool} (hE : ∀ i, i < m → EdgeN p f i) (hm : m ≤ 40) {n : Nat} (hn : n ≤ p) : outN p f m k S q n ≤ 4000 := by
  have h1 : outN p f m k S q n ≤ sumN (fun o => btw f k o m) n := sumN_le fun o _ => by split <;> omega
  have h2 := sumN_mono (F := fun o => btw f k o m) hn
  have h3 := btw_sum (k := k) hE
  have h4 := deg_le (a := k) hE
  omega

set_option maxHeartbeats 8000000 in
set_option maxRecDepth 1000000 in
theorem outer_any (p : Nat) (ea : Option Addr) (m ec : Nat) (f : Nat → Nat → Int) (k bs cs : Nat) (S : Nat → Bool) (q : Bool) (w : World) (hE : Mem.Rows w ea m 3 (fun i j => .int .i64 (f i j))) (hm : m ≤ 40) (hN : ∀ i, i < m → EdgeN p f i) (hp : p ≤ 10) (hS : VecB w bs p S) :
    Calls Try.prog 24 #[.agg #[.int .i64 (p : Int), .slice ea m ec], .int .i64 (k : Int), .slice (some ⟨bs, 0, none⟩) p cs, .bool q] w fun e w' => e = .returned (.int .i64 (outN p f m k S q p : Nat)) ∧ Below w.heap.size w w' := by
  have HE := Lib.hid hE
  have HEN := Lib.hid hN
  have HS := Lib.hid hS
  have hsl := hS.lt
  clear hE hN hS
  go_enter Try.func24, Try.ntmps24
  go_upto_region 1 with fail
  have hR : Row (w.alloc (.cells #[.int .i64 (p : Int), .slice ea m ec] 24)) w.heap.size 24 [.int .i64 (p : Int), .slice ea m ec] := row_alloc w _ _
  have hB : Below w.heap.size w (w.alloc (.cells #[.int .i64 (p : Int), .slice ea m ec] 24)) := (Below.refl _ _).alloc (Nat.le_refl _) _
  have HG := Lib.hid hR
  have HB := Lib.hid hB
  clear hR hB
  generalize w.alloc (.cells #[.int .i64 (p : Int), .slice ea m ec] 24) = w1 at *
  go_wp2_with fail
  go_loopw [9, 10] (fun y z wr => ∃ o : Nat, o ≤ p ∧ y = .int .i64 (outN p f m k S q o : Nat) ∧ z = .int .i64 (o : Int) ∧ Row wr w.heap.size 24 [.int .i64 (p : Int), .slice ea m ec] ∧ Below w.heap.size w wr) (fun _ z _ => p - (intOf z).toNat)
  case atStart => exact ⟨0, Nat.zero_le _, rfl, rfl, HG.out, HB.out⟩
  case round =>
    clear HG HB
    obtain ⟨o, hop, rfl, rfl, hg, hb⟩ := hrel
    have HG := Lib.hid hg
    have HB := Lib.hid hb
    have g0 := hg.cell 0
    dsimp only [List.getElem?_cons_zero] at g0
    clear hg hb
    have hn4 := outN_le (k := k) (S := S) (q := q) HEN.out hm hop
    by_cases ho : o < p
    · have ho2 : (o : Int) < (p : Int) := by omega
      have s1 := (HS.out.keep HB.out hsl).cell ho
      have HNX : Hid (outN p f m k S q (o + 1) = outN p f m k S q o + if o ≠ k ∧ S o = q then btw f k o m else 0) := rfl
      have hb4 := btw_le (a := k) (b := o) HEN.out
      obtain ⟨n, hn⟩ : ∃ n, n = outN p f m k S q o := ⟨_, rfl⟩
      rw [← hn] at HNX hn4 ⊢
      clear hn
      obtain ⟨so, hso⟩ : ∃ b, b = S o := ⟨_, rfl⟩
      rw [← hso] at s1 HNX
      clear hso
      have HB4 : Hid (btw f k o m ≤ 4000) := Nat.le_trans hb4 (by omega)
      clear hb4
      by_cases hok : o = k
      · have b1 : ((o : Int) != (k : Int)) = false := by rw [hok]; exact bne_self_eq_false _
        have HN2 : Hid (outN p f m k S q (o + 1) = n) := by
          show _ = _
          rw [HNX.out, if_neg (fun h => h.1 hok), Nat.add_zero]
        clear hok
        go_wp2_with fail
        go_roundw
        case rel => exact ⟨o + 1, by omega, by rw [HN2.out], by go_num, HG.out, HB.out⟩
        case measure => simp [intOf]; omega
      have b1 : ((o : Int) != (k : Int)) = true := by rw [bne_iff_ne]; omega
      by_cases hsq : so = q
      · subst hsq
        have HN2 : Hid (outN p f m k S so (o + 1) = n + btw f k o m) := by
          show _ = _
          rw [HNX.out, if_pos ⟨hok, rfl⟩]
        have b2 : (so == so) = true := beq_self_eq_true _
        have l1 := row_range HG.out
        clear hok HNX
        go_wp2_with (refine wpList_load_mid rfl 24 _ rfl w.heap.size 0 rfl _ _ l1 Try.underlying24 rfl infoGraph ?_)
        clear l1
        refine (between_any (p : Int) p ea m ec f k o wr (rows_keep HE.out HB.out) hm HEN.out).mono ?_
        rintro e1 w2 ⟨rfl, hb2⟩
        have HG := Lib.hid (HG.out.keep hb2 HG.out.lt)
        have HB := Lib.hid (HB.out.trans (hb2.mono HB.out.size))
        clear hb2 s1 g0
        have hx4 := HB4.out
        obtain ⟨x, hx⟩ : ∃ x, x = btw f k o m := ⟨_, rfl⟩
        rw [← hx] at HN2 hx4 ⊢
        clear hx HB4
        have hf1 : (n : Int) + (x : Int) ≤ 9223372036854775807 := by omega
        have hf2 : (-9223372036854775808 : Int) ≤ (n : Int) + (x : Int) := by omega
        go_wp2_with fail
        go_roundw
        case rel => exact ⟨o + 1, by omega, by rw [HN2.out, Int.natCast_add], by go_num, HG.out, HB.out⟩
        case measure => simp [intOf]; omega
      · have HN2 : Hid (outN p f m k S q (o + 1) = n) := by
          show _ = _
          rw [HNX.out, if_neg (fun h => hsq h.2), Nat.add_zero]
        have b2 : (so == q) = false := by rw [beq_eq_false_iff_ne]; exact hsq
        clear hok hsq
        go_wp2_with fail
        go_roundw
        case rel => exact ⟨o + 1, by omega, by rw [HN2.out], by go_num, HG.out, HB.out⟩
        case measure => simp [intOf]; omega
    · obtain rfl : o = p := by omega
      go_wp2_with fail
      go_ret
      exact ⟨rfl, HB.out⟩
end Ch
end Go.Proofs.Ytjikildiblchpaa
