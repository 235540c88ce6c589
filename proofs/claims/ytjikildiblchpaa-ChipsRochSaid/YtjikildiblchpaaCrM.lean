/- Several texts laid together: DfB DfO DfN ChW DgA DgC. -/
import Derived.Test.YtjikildiblchpaaChC
import Derived.Test.YtjikildiblchpaaChPl
import Derived.Test.YtjikildiblchpaaRtR
import Derived.Test.YtjikildiblchpaaChS
import Derived.Test.YtjikildiblchpaaChR2
import Derived.Deep.RegionWith
/- WALK of the document's answer: edenref6.Between, Divisor, Sum. -/
namespace Go.Proofs.Ytjikildiblchpaa
set_option linter.unusedSimpArgs false
set_option linter.unusedVariables false
open Go.RowKit Go.Lib
namespace Ch
open Tld Mem Rt

set_option maxHeartbeats 8000000 in
set_option maxRecDepth 1000000 in
theorem between_any (P : Int) (p : Nat) (ea : Option Addr) (m ec : Nat) (f : Nat → Nat → Int) (k o : Nat) (w : World) (hE : Mem.Rows w ea m 3 (fun i j => .int .i64 (f i j))) (hm : m ≤ 40) (hN : ∀ i, i < m → EdgeN p f i) :
    Calls Try.prog 41 #[.agg #[.int .i64 P, .slice ea m ec], .int .i64 (k : Int), .int .i64 (o : Int)] w fun e w' => e = .returned (.int .i64 (btw f k o m : Nat)) ∧ Below w.heap.size w w' := by
  have HER := Lib.hid hE
  have HEN := Lib.hid hN
  clear hE hN
  go_enter Try.func41, Try.ntmps41
  go_upto_region 1 with fail
  have hR : Row (w.alloc (.cells #[.int .i64 P, .slice ea m ec] 24)) w.heap.size 24 [.int .i64 P, .slice ea m ec] := row_alloc w _ _
  have hB : Below w.heap.size w (w.alloc (.cells #[.int .i64 P, .slice ea m ec] 24)) := (Below.refl _ _).alloc (Nat.le_refl _) _
  have HG := Lib.hid hR
  have HB := Lib.hid hB
  clear hR hB
  generalize w.alloc (.cells #[.int .i64 P, .slice ea m ec] 24) = w1 at *
  obtain ⟨bg, hbg⟩ : ∃ bg, bg = w.heap.size := ⟨_, rfl⟩
  rw [← hbg] at HG ⊢
  have hlg : w.heap.size ≤ bg := by omega
  clear hbg
  go_wp2_with fail
  go_loopw [7, 8] (fun z u wr => ∃ i : Nat, i ≤ m ∧ z = .int .i64 (btw f k o i : Nat) ∧ u = .int .i64 (i : Int) ∧ Row wr bg 24 [.int .i64 P, .slice ea m ec] ∧ Below w.heap.size w wr) (fun _ u _ => m - (intOf u).toNat)
  case atStart => exact ⟨0, Nat.zero_le _, rfl, rfl, HG.out, HB.out⟩
  case round =>
    clear HG HB
    obtain ⟨i, him, rfl, rfl, hg, hb⟩ := hrel
    have HG := Lib.hid hg
    have HB := Lib.hid hb
    have g1 := hg.cell 1
    dsimp only [List.getElem?_cons_succ, List.getElem?_cons_zero] at g1
    clear hg hb
    by_cases hlt : i < m
    · --{ROUND
      obtain ⟨b, off, rfl, hbl, hrest⟩ := HER.out i hlt
      clear hrest
      have l1 := edges_range (fun i hi => by
        obtain ⟨b', o', e, h1, h2⟩ := HER.out i hi
        exact ⟨b', o', e, Nat.lt_of_lt_of_le h1 HB.out.size, fun j hj => by rw [HB.out.cell h1]; exact h2 j hj⟩) hlt (w := wr) (b := b) (off := off)
      have hi2 : (i : Int) < (m : Int) := by omega
      have hN := HEN.out i hlt
      rw [hN.a, hN.b, hN.t] at l1
      have hd4 : btw f k o i ≤ 100 * i := btw_le fun j hj => HEN.out j (by omega)
      have HS := Lib.hid (btw_succ (f := f) (a := k) (b := o) (m := i))
      obtain ⟨d, hd⟩ : ∃ d, d = btw f k o i := ⟨_, rfl⟩
      rw [← hd] at HS hd4 ⊢
      have th := hN.th
      obtain ⟨a, ha⟩ : ∃ a, a = eA f i := ⟨_, rfl⟩
      obtain ⟨c, hc⟩ : ∃ c, c = eB f i := ⟨_, rfl⟩
      obtain ⟨t, ht⟩ : ∃ t, t = eT f i := ⟨_, rfl⟩
      rw [← ha, ← hc, ← ht] at l1
      rw [← ht] at HS
      rw [← ht] at th
      have HAE := Lib.hid ha
      have HCE := Lib.hid hc
      clear hN ha hc hd ht
      have hrow : Row (wr.alloc (.cells #[.int .i64 (a : Int), .int .i64 (c : Int), .int .i64 (t : Int)] 27)) wr.heap.size 27 [.int .i64 (a : Int), .int .i64 (c : Int), .int .i64 (t : Int)] := row_alloc wr _ _
      have hbn2 : Below wr.heap.size wr (wr.alloc (.cells #[.int .i64 (a : Int), .int .i64 (c : Int), .int .i64 (t : Int)] 27)) := (Below.refl _ _).alloc (Nat.le_refl _) _
      go_upto_region 6 with (refine wpList_load_mid rfl 27 _ rfl b (off + i * 3) rfl _ _ l1 Try.underlying27 rfl infoEdge ?_)
      have HG := Lib.hid (HG.out.keep hbn2 HG.out.lt)
      have HB := Lib.hid (HB.out.trans (hbn2.mono HB.out.size))
      have e0 := hrow.cell 0
      have e1 := hrow.cell 1
      have e2 := hrow.cell 2
      dsimp only [List.getElem?_cons_succ, List.getElem?_cons_zero] at e0 e1 e2
      clear hbn2 hrow l1
      generalize wr.alloc (.cells #[.int .i64 (a : Int), .int .i64 (c : Int), .int .i64 (t : Int)] 27) = w2 at *
      have hf1 : (-9223372036854775808 : Int) ≤ (d : Int) + (t : Int) := by omega
      have hf2 : (d : Int) + (t : Int) ≤ 9223372036854775807 := by omega
      have hab : Btw f i k o ↔ (a = k ∧ c = o) ∨ (a = o ∧ c = k) := by rw [HAE.out, HCE.out]; exact Iff.rfl
      have HYES : Hid ((a = k ∧ c = o) ∨ (a = o ∧ c = k) → btw f k o (i + 1) = d + t) := fun h => by rw [HS.out, if_pos (hab.2 h)]
      have HNO : Hid (¬ ((a = k ∧ c = o) ∨ (a = o ∧ c = k)) → btw f k o (i + 1) = d) := fun h => by rw [HS.out, if_neg (fun x => h (hab.1 x)), Nat.add_zero]
      clear hab
      have bb : ∀ x y : Nat, ((x : Int) == (y : Int)) = decide (x = y) := fun x y => by
        by_cases h : x = y
        · rw [h, decide_eq_true rfl]; exact beq_self_eq_true _
        · rw [decide_eq_false h, beq_eq_false_iff_ne]; omega
      have q1 := bb a k
      have q2 := bb c o
      have q3 := bb a o
      have q4 := bb c k
      clear bb
      by_cases h1 : a = k
      · by_cases h2 : c = o
        · have HS2 := Lib.hid (HYES.out (.inl ⟨h1, h2⟩))
          rw [decide_eq_true h1] at q1
          rw [decide_eq_true h2] at q2
          clear q3 q4 h1 h2 HYES HNO
          go_wp2_with fail
          go_roundw
          case rel => exact ⟨i + 1, by omega, by rw [HS2.out]; go_num, by go_num, HG.out, HB.out⟩
          case measure => simp [intOf]; omega
        · rw [decide_eq_true h1] at q1
          rw [decide_eq_false h2] at q2
          by_cases h3 : a = o
          · by_cases h4 : c = k
            · have HS2 := Lib.hid (HYES.out (.inr ⟨h3, h4⟩))
              rw [decide_eq_true h3] at q3
              rw [decide_eq_true h4] at q4
              clear h1 h2 h3 h4 HYES HNO
              go_wp2_with fail
              go_roundw
              case rel => exact ⟨i + 1, by omega, by rw [HS2.out]; go_num, by go_num, HG.out, HB.out⟩
              case measure => simp [intOf]; omega
            · have HS2 := Lib.hid (HNO.out fun h => h.elim (fun h => h2 h.2) (fun h => h4 h.2))
              rw [decide_eq_true h3] at q3
              rw [decide_eq_false h4] at q4
              clear h1 h2 h3 h4 HYES HNO
              go_wp2_with fail
              go_roundw
              case rel => exact ⟨i + 1, by omega, by rw [HS2.out], by go_num, HG.out, HB.out⟩
              case measure => simp [intOf]; omega
          · have HS2 := Lib.hid (HNO.out fun h => h.elim (fun h => h2 h.2) (fun h => h3 h.1))
            rw [decide_eq_false h3] at q3
            clear h1 h2 h3 HYES HNO
            go_wp2_with fail
            go_roundw
            case rel => exact ⟨i + 1, by omega, by rw [HS2.out], by go_num, HG.out, HB.out⟩
            case measure => simp [intOf]; omega
      · rw [decide_eq_false h1] at q1
        by_cases h3 : a = o
        · rw [decide_eq_true h3] at q3
          by_cases h4 : c = k
          · have HS2 := Lib.hid (HYES.out (.inr ⟨h3, h4⟩))
            rw [decide_eq_true h4] at q4
            clear h1 h3 h4 HYES HNO
            go_wp2_with fail
            go_roundw
            case rel => exact ⟨i + 1, by omega, by rw [HS2.out]; go_num, by go_num, HG.out, HB.out⟩
            case measure => simp [intOf]; omega
          · have HS2 := Lib.hid (HNO.out fun h => h.elim (fun h => h1 h.1) (fun h => h4 h.2))
            rw [decide_eq_false h4] at q4
            clear h1 h3 h4 HYES HNO
            go_wp2_with fail
            go_roundw
            case rel => exact ⟨i + 1, by omega, by rw [HS2.out], by go_num, HG.out, HB.out⟩
            case measure => simp [intOf]; omega
        · have HS2 := Lib.hid (HNO.out fun h => h.elim (fun h => h1 h.1) (fun h => h3 h.1))
          rw [decide_eq_false h3] at q3
          clear h1 h3 HYES HNO
          go_wp2_with fail
          go_roundw
          case rel => exact ⟨i + 1, by omega, by rw [HS2.out], by go_num, HG.out, HB.out⟩
          case measure => simp [intOf]; omega
      --}
    · --{END
      obtain rfl : i = m := by omega
      go_wp2_with fail
      go_ret
      exact ⟨rfl, HB.out⟩
      --}
theorem dfault_bad {p n k : Nat} {zs : List Int} (hl : zs.length = n) (hn : n = p) (hk : k < n) (h : zs.getD k 0 < -1000 ∨ 1000 < zs.getD k 0) : dfault p zs = 1 := by
  unfold dfault
  rw [if_neg (fun x => x (by omega)), if_pos (any_yes (p := dbad) (k := k) (by omega) (decide_eq_true h))]
theorem dfault_good {p n : Nat} {zs : List Int} (hl : zs.length = n) (hn : n = p) (h : ∀ k, k < n → -1000 ≤ zs.getD k 0 ∧ zs.getD k 0 ≤ 1000) : dfault p zs = 0 := by
  unfold dfault
  have : zs.any dbad = false := any_no fun k hk => decide_eq_false (by have := h k (by omega); omega)
  rw [if_neg (fun x => x (by omega)), if_neg (by rw [this]; decide)]
set_option maxHeartbeats 8000000 in
set_option maxRecDepth 1000000 in
theorem rdiv_any (p : Nat) (ea : Option Addr) (m ec : Nat) (da : Option Addr) (dn dc : Nat) (zs : List Int) (w : World) (hD : Ints.Is w da dn zs) (hp : p ≤ 10) :
    Calls Try.prog 12 #[.agg #[.int .i64 (p : Int), .slice ea m ec], .slice da dn dc] w fun e w' => e = .returned (.int .i64 (dfault p zs)) ∧ Below w.heap.size w w' := by
  have HD := Lib.hid hD
  have HL := Lib.hid hD.len
  have hle := hD.le
  unfold maxLen at hle
  clear hD
  go_enter Try.func12, Try.ntmps12
  go_upto_region 1 with fail
  have hR : Row (w.alloc (.cells #[.int .i64 (p : Int), .slice ea m ec] 24)) w.heap.size 24 [.int .i64 (p : Int), .slice ea m ec] := row_alloc w _ _
  have hB : Below w.heap.size w (w.alloc (.cells #[.int .i64 (p : Int), .slice ea m ec] 24)) := (Below.refl _ _).alloc (Nat.le_refl _) _
  have HG := Lib.hid hR
  have HB := Lib.hid hB
  clear hR hB
  generalize w.alloc (.cells #[.int .i64 (p : Int), .slice ea m ec] 24) = w1 at *
  have HDW := Lib.hid (HD.out.keep HB.out)
  have g0 := HG.out.cell 0
  dsimp only [List.getElem?_cons_zero] at g0
  by_cases hn : dn = p
  · subst hn
    have b1 : ((dn : Int) != (dn : Int)) = false := bne_self_eq_false _
    go_wp2_with fail
    clear g0 b1
    go_loopw [5] (fun z wr => ∃ k : Nat, k ≤ dn ∧ z = .int .i64 (k : Int) ∧ (∀ j, j < k → -1000 ≤ zs.getD j 0 ∧ zs.getD j 0 ≤ 1000) ∧ wr = w1) (fun z _ => dn - (intOf z).toNat)
    case atStart => exact ⟨0, Nat.zero_le _, rfl, fun j hj => absurd hj (Nat.not_lt_zero _), rfl⟩
    case round =>
      obtain ⟨k, hkn, rfl, hall, rfl⟩ := hrel
      have HALL := Lib.hid hall
      clear hall
      by_cases hk : k < dn
      · have hk2 : (k : Int) < (dn : Int) := by omega
        obtain ⟨bz, oz, rfl, _, hcz⟩ := HDW.out.cells k hk
        dsimp only at hcz
        have HBAD : Hid (zs.getD k 0 < -1000 ∨ 1000 < zs.getD k 0 → dfault dn zs = 1) := fun h => dfault_bad HL.out rfl hk h
        have HNX : Hid (-1000 ≤ zs.getD k 0 ∧ zs.getD k 0 ≤ 1000 → ∀ j, j < k + 1 → -1000 ≤ zs.getD j 0 ∧ zs.getD j 0 ≤ 1000) := fun h j hj => by
          by_cases e : j = k
          · rw [e]; exact h
          · exact HALL.out j (by omega)
        obtain ⟨z, hz⟩ : ∃ z, z = zs.getD k 0 := ⟨_, rfl⟩
        rw [← hz] at hcz HBAD HNX
        clear hz
        by_cases h1 : z < -1000
        · have HX := Lib.hid (HBAD.out (.inl h1))
          go_wp2_with fail
          go_ret
          exact ⟨by rw [HX.out]; rfl, HB.out⟩
        by_cases h2 : 1000 < z
        · have HX := Lib.hid (HBAD.out (.inr h2))
          go_wp2_with fail
          go_ret
          exact ⟨by rw [HX.out]; rfl, HB.out⟩
        · have HX := Lib.hid (HNX.out ⟨by omega, by omega⟩)
          go_wp2_with fail
          go_roundw
          case rel => exact ⟨k + 1, by omega, by go_num, HX.out, by trivial⟩
          case measure => simp [intOf]; omega
      · obtain rfl : k = dn := by omega
        have HX : Hid (dfault k zs = 0) := dfault_good HL.out rfl HALL.out
        go_wp2_with fail
        go_ret
        exact ⟨by rw [HX.out]; rfl, HB.out⟩
  · have b1 : ((dn : Int) != (p : Int)) = true := by rw [bne_iff_ne]; omega
    have HX : Hid (dfault p zs = 3) := by
      show _ = _
      unfold dfault
      rw [if_pos (fun h => hn (by rw [← HL.out]; exact h))]
    clear hn
    go_wp2_with fail
    go_ret
    exact ⟨by rw [HX.out]; rfl, HB.out⟩
set_option maxHeartbeats 4000000 in
theorem rsumZ_any (ca : Option Addr) (n cc : Nat) (zs : List Int) (w : World) (hC : Ints.Is w ca n zs) (hn : n ≤ 10) :
    Calls Try.prog 13 #[.slice ca n cc] w fun e w' => e = .returned (.int .i64 (wrap64 (sumZ (fun k => zs.getD k 0) n))) ∧ w' = w := by
  have HC := Lib.hid hC
  clear hC
  go_enter Try.func13, Try.ntmps13
  go_wp2_with fail
  go_loopw [3, 4] (fun z u wr => ∃ k : Nat, k ≤ n ∧ z = .int .i64 (wrap64 (sumZ (fun k => zs.getD k 0) k)) ∧ u = .int .i64 (k : Int) ∧ wr = w) (fun _ u _ => n - (intOf u).toNat)
  case atStart => exact ⟨0, Nat.zero_le _, (show Value.int .i64 0 = Value.int .i64 (wrap64 0) by rw [show wrap64 0 = 0 from by unfold wrap64; omega]), rfl, rfl⟩
  case round =>
    obtain ⟨k, hkn, rfl, rfl, rfl⟩ := hrel
    by_cases hk : k < n
    · have hk2 : (k : Int) < (n : Int) := by omega
      obtain ⟨bz, oz, rfl, _, hcz⟩ := HC.out.cells k hk
      dsimp only at hcz
      have HNX : Hid (wrap64 (sumZ (fun k => zs.getD k 0) (k + 1)) = wrap64 (wrap64 (sumZ (fun k => zs.getD k 0) k) + zs.getD k 0)) := by
        show _ = _
        rw [wrap_add]; rfl
      obtain ⟨s, hs⟩ : ∃ s, s = wrap64 (sumZ (fun k => zs.getD k 0) k) := ⟨_, rfl⟩
      rw [← hs] at HNX ⊢
      clear hs
      obtain ⟨x, hx⟩ : ∃ x, x = zs.getD k 0 := ⟨_, rfl⟩
      rw [← hx] at HNX hcz
      clear hx
      go_wp2_with fail
      go_roundw
      case rel => exact ⟨k + 1, by omega, by rw [HNX.out], by go_num, by trivial⟩
      case measure => simp [intOf]; omega
    · obtain rfl : k = n := by omega
      go_wp2_with fail
      go_ret
      exact ⟨rfl, rfl⟩
end Ch
end Go.Proofs.Ytjikildiblchpaa

/- WALK of the document's answer: edenref6.outer, Burns. -/
namespace Go.Proofs.Ytjikildiblchpaa
set_option linter.unusedSimpArgs false
set_option linter.unusedVariables false
open Go.RowKit Go.Lib
namespace Ch
open Tld Mem Rt

/-- What outer counts. -/
def outN (p : Nat) (f : Nat → Nat → Int) (m k : Nat) (S : Nat → Bool) (q : Bool) (n : Nat) : Nat := sumN (fun o => if o ≠ k ∧ S o = q then btw f k o m else 0) n
theorem outN_out {p m k : Nat} {f : Nat → Nat → Int} {S : Nat → Bool} (h0 : btw f k k m = 0) : outN p f m k S false p = outS p (fun a b => btw f a b m) S k := by
  unfold outN outS
  refine sumN_congr fun o _ => ?_
  by_cases e : o = k
  · subst e
    rw [if_neg (fun h => h.1 rfl)]
    split
    · rfl
    · exact h0.symm
  · by_cases hs : S o = true
    · rw [if_neg (fun h => by rw [hs] at h; cases h.2), if_pos hs]
    · rw [if_pos (show o ≠ k ∧ S o = false from ⟨e, by cases h : S o; rfl; exact absurd h hs⟩), if_neg hs]
theorem outN_in {p m k : Nat} {f : Nat → Nat → Int} {S : Nat → Bool} (h0 : btw f k k m = 0) : outN p f m k S true p = inS p (fun a b => btw f a b m) S k := by
  unfold outN inS
  refine sumN_congr fun o _ => ?_
  by_cases e : o = k
  · subst e
    rw [if_neg (fun h => h.1 rfl)]
    split
    · exact h0.symm
    · rfl
  · by_cases hs : S o = true
    · rw [if_pos (show o ≠ k ∧ S o = true from ⟨e, hs⟩), if_pos hs]
    · rw [if_neg (fun h => hs h.2), if_neg hs]
theorem outN_le {p m k : Nat} {f : Nat → Nat → Int} {S : Nat → Bool} {q : Bool} (hE : ∀ i, i < m → EdgeN p f i) (hm : m ≤ 40) {n : Nat} (hn : n ≤ p) : outN p f m k S q n ≤ 4000 := by
  have h1 : outN p f m k S q n ≤ sumN (fun o => btw f k o m) n := sumN_le fun o _ => by split <;> omega
  have h2 := sumN_mono (F := fun o => btw f k o m) hn
  have h3 := btw_sum (k := k) hE
  have h4 := deg_le (a := k) hE
  omega

set_option maxHeartbeats 8000000 in
set_option maxRecDepth 1000000 in
theorem outer_any (p : Nat) (ea : Option Addr) (m ec : Nat) (f : Nat → Nat → Int) (k bs cs : Nat) (S : Nat → Bool) (q : Bool) (w : World) (hE : Mem.Rows w ea m 3 (fun i j => .int .i64 (f i j))) (hm : m ≤ 40) (hN : ∀ i, i < m → EdgeN p f i) (hp : p ≤ 10) (hS : VecB w bs p S) :
    Calls Try.prog 24 #[.agg #[.int .i64 (p : Int), .slice ea m ec], .int .i64 (k : Int), .slice (some ⟨bs, 0, none⟩) p cs, .bool q] w fun e w' => e = .returned (.int .i64 (outN p f m k S q p : Nat)) ∧ Below w.heap.size w w' := by
  have HE := Lib.hid hE
  have HEN := Lib.hid hN
  have HS := Lib.hid hS
  have hsl := hS.lt
  clear hE hN hS
  go_enter Try.func24, Try.ntmps24
  go_upto_region 1 with fail
  have hR : Row (w.alloc (.cells #[.int .i64 (p : Int), .slice ea m ec] 24)) w.heap.size 24 [.int .i64 (p : Int), .slice ea m ec] := row_alloc w _ _
  have hB : Below w.heap.size w (w.alloc (.cells #[.int .i64 (p : Int), .slice ea m ec] 24)) := (Below.refl _ _).alloc (Nat.le_refl _) _
  have HG := Lib.hid hR
  have HB := Lib.hid hB
  clear hR hB
  generalize w.alloc (.cells #[.int .i64 (p : Int), .slice ea m ec] 24) = w1 at *
  go_wp2_with fail
  go_loopw [9, 10] (fun y z wr => ∃ o : Nat, o ≤ p ∧ y = .int .i64 (outN p f m k S q o : Nat) ∧ z = .int .i64 (o : Int) ∧ Row wr w.heap.size 24 [.int .i64 (p : Int), .slice ea m ec] ∧ Below w.heap.size w wr) (fun _ z _ => p - (intOf z).toNat)
  case atStart => exact ⟨0, Nat.zero_le _, rfl, rfl, HG.out, HB.out⟩
  case round =>
    clear HG HB
    obtain ⟨o, hop, rfl, rfl, hg, hb⟩ := hrel
    have HG := Lib.hid hg
    have HB := Lib.hid hb
    have g0 := hg.cell 0
    dsimp only [List.getElem?_cons_zero] at g0
    clear hg hb
    have hn4 := outN_le (k := k) (S := S) (q := q) HEN.out hm hop
    by_cases ho : o < p
    · have ho2 : (o : Int) < (p : Int) := by omega
      have s1 := (HS.out.keep HB.out hsl).cell ho
      have HNX : Hid (outN p f m k S q (o + 1) = outN p f m k S q o + if o ≠ k ∧ S o = q then btw f k o m else 0) := rfl
      have hb4 := btw_le (a := k) (b := o) HEN.out
      obtain ⟨n, hn⟩ : ∃ n, n = outN p f m k S q o := ⟨_, rfl⟩
      rw [← hn] at HNX hn4 ⊢
      clear hn
      obtain ⟨so, hso⟩ : ∃ b, b = S o := ⟨_, rfl⟩
      rw [← hso] at s1 HNX
      clear hso
      have HB4 : Hid (btw f k o m ≤ 4000) := Nat.le_trans hb4 (by omega)
      clear hb4
      by_cases hok : o = k
      · have b1 : ((o : Int) != (k : Int)) = false := by rw [hok]; exact bne_self_eq_false _
        have HN2 : Hid (outN p f m k S q (o + 1) = n) := by
          show _ = _
          rw [HNX.out, if_neg (fun h => h.1 hok), Nat.add_zero]
        clear hok
        go_wp2_with fail
        go_roundw
        case rel => exact ⟨o + 1, by omega, by rw [HN2.out], by go_num, HG.out, HB.out⟩
        case measure => simp [intOf]; omega
      have b1 : ((o : Int) != (k : Int)) = true := by rw [bne_iff_ne]; omega
      by_cases hsq : so = q
      · subst hsq
        have HN2 : Hid (outN p f m k S so (o + 1) = n + btw f k o m) := by
          show _ = _
          rw [HNX.out, if_pos ⟨hok, rfl⟩]
        have b2 : (so == so) = true := beq_self_eq_true _
        have l1 := row_range HG.out
        clear hok HNX
        go_wp2_with (refine wpList_load_mid rfl 24 _ rfl w.heap.size 0 rfl _ _ l1 Try.underlying24 rfl infoGraph ?_)
        clear l1
        refine (between_any (p : Int) p ea m ec f k o wr (rows_keep HE.out HB.out) hm HEN.out).mono ?_
        rintro e1 w2 ⟨rfl, hb2⟩
        have HG := Lib.hid (HG.out.keep hb2 HG.out.lt)
        have HB := Lib.hid (HB.out.trans (hb2.mono HB.out.size))
        clear hb2 s1 g0
        have hx4 := HB4.out
        obtain ⟨x, hx⟩ : ∃ x, x = btw f k o m := ⟨_, rfl⟩
        rw [← hx] at HN2 hx4 ⊢
        clear hx HB4
        have hf1 : (n : Int) + (x : Int) ≤ 9223372036854775807 := by omega
        have hf2 : (-9223372036854775808 : Int) ≤ (n : Int) + (x : Int) := by omega
        go_wp2_with fail
        go_roundw
        case rel => exact ⟨o + 1, by omega, by rw [HN2.out, Int.natCast_add], by go_num, HG.out, HB.out⟩
        case measure => simp [intOf]; omega
      · have HN2 : Hid (outN p f m k S q (o + 1) = n) := by
          show _ = _
          rw [HNX.out, if_neg (fun h => hsq h.2), Nat.add_zero]
        have b2 : (so == q) = false := by rw [beq_eq_false_iff_ne]; exact hsq
        clear hok hsq
        go_wp2_with fail
        go_roundw
        case rel => exact ⟨o + 1, by omega, by rw [HN2.out], by go_num, HG.out, HB.out⟩
        case measure => simp [intOf]; omega
    · obtain rfl : o = p := by omega
      go_wp2_with fail
      go_ret
      exact ⟨rfl, HB.out⟩
end Ch
end Go.Proofs.Ytjikildiblchpaa

/- WALK of the document's answer: edenref6.Burns. -/
namespace Go.Proofs.Ytjikildiblchpaa
set_option linter.unusedSimpArgs false
set_option linter.unusedVariables false
open Go.RowKit Go.Lib
namespace Ch
open Tld Mem Rt

theorem not_upd {F : Nat → Bool} {k : Nat} : (fun j => !(updB F k false j)) = setB (fun j => !F j) k true := funext fun j => by
  unfold updB setB
  by_cases e : j = k
  · rw [if_pos e, if_pos e]; rfl
  · rw [if_neg e, if_neg e]
theorem out_not {P : Nat} {w : Nat → Nat → Nat} {F : Nat → Bool} {k : Nat} : outS P w F k = inS P w (fun j => !F j) k := by
  rw [← inS_not]
  congr 1
  exact funext fun j => by simp

set_option maxHeartbeats 8000000 in
set_option maxRecDepth 1000000 in
theorem burns_any (p : Nat) (ea : Option Addr) (m ec : Nat) (f : Nat → Nat → Int) (da : Option Addr) (dc : Nat) (zs : List Int) (a : Nat) (w : World) (hE : Mem.Rows w ea m 3 (fun i j => .int .i64 (f i j))) (hok : GOk p m f) (hD : Ints.Is w da p zs) (ha : a < p) :
    Calls Try.prog 14 #[.agg #[.int .i64 (p : Int), .slice ea m ec], .slice da p dc, .int .i64 (a : Int)] w fun e w' => ∃ (b : Nat) (F : Nat → Bool), e = .returned (.slice (some ⟨b, 0, none⟩) p p) ∧ w.heap.size ≤ b ∧ VecB w' b p F ∧ Burn p (fun a b => btw f a b m) (fun k => zs.getD k 0) a (fun j => !F j) ∧ (∀ k, k < p → F k = true → (outS p (fun a b => btw f a b m) F k : Int) ≤ zs.getD k 0) ∧ Below w.heap.size w w' := by
  have hp10 := hok.p10
  have HE := Lib.hid hE
  have HOK := Lib.hid hok
  have HD := Lib.hid hD
  have hmk := mk_bools p hp10
  clear hE hok hD
  go_enter Try.func14, Try.ntmps14
  go_upto_region 1 with fail
  have hR : Row (w.alloc (.cells #[.int .i64 (p : Int), .slice ea m ec] 24)) w.heap.size 24 [.int .i64 (p : Int), .slice ea m ec] := row_alloc w _ _
  have hB : Below w.heap.size w (w.alloc (.cells #[.int .i64 (p : Int), .slice ea m ec] 24)) := (Below.refl _ _).alloc (Nat.le_refl _) _
  have HG := Lib.hid hR
  have HB := Lib.hid hB
  clear hR hB
  generalize w.alloc (.cells #[.int .i64 (p : Int), .slice ea m ec] 24) = w1 at *
  have g0 := HG.out.cell 0
  dsimp only [List.getElem?_cons_zero] at g0
  go_upto_region 2 with fail
  have HS0 := Lib.hid (vecB_made w1 p)
  have hal : Below w1.heap.size w1 (w1.alloc (.cells (Array.replicate p (Value.bool false)) 4)) := (Below.refl _ _).alloc (Nat.le_refl _) _
  have HG1 := Lib.hid (HG.out.keep hal HG.out.lt)
  have HB1 := Lib.hid (HB.out.trans (hal.mono HB.out.size))
  have hbw : w.heap.size ≤ w1.heap.size := HB.out.size
  obtain ⟨bs, hbse⟩ : ∃ b, b = w1.heap.size := ⟨_, rfl⟩
  rw [← hbse] at HS0 hbw
  rw [← hbse]
  clear hal hmk hbse HG HB g0
  generalize w1.alloc (.cells (Array.replicate p (Value.bool false)) 4) = w2 at *
  go_wp2_with fail
  go_loopw [8] (fun z wr => ∃ k : Nat, k ≤ p ∧ z = .int .i64 (k : Int) ∧ VecB wr bs p (fun j => if j < k then decide (j ≠ a) else false) ∧ Row wr w.heap.size 24 [.int .i64 (p : Int), .slice ea m ec] ∧ Below w.heap.size w wr) (fun z _ => p - (intOf z).toNat)
  case atStart => exact ⟨0, Nat.zero_le _, rfl, HS0.out.congr fun j hj => by rw [if_neg (Nat.not_lt_zero _)], HG1.out, HB1.out⟩
  case round =>
    clear HS0 HG1 HB1
    obtain ⟨k, hkp, rfl, hs, hg, hb⟩ := hrel
    have HS := Lib.hid hs
    have HG := Lib.hid hg
    have HB := Lib.hid hb
    have g0 := hg.cell 0
    dsimp only [List.getElem?_cons_zero] at g0
    clear hs hg hb
    have hne : w.heap.size ≠ bs := by
      obtain ⟨c1, h1, _⟩ := HS.out.row
      exact row_ne HG.out h1 (by decide)
    by_cases hk : k < p
    · have hk2 : (k : Int) < (p : Int) := by omega
      have s1 := HS.out.cell hk
      have s2 := HS.out.frozen k
      have b1 : ((k : Int) != (a : Int)) = decide (k ≠ a) := by
        by_cases h : k = a
        · rw [h, decide_eq_false (fun x => x rfl)]; exact bne_self_eq_false _
        · rw [decide_eq_true h, bne_iff_ne]; omega
      have o1 := only_setCell wr bs k (.bool (decide (k ≠ a)))
      have HS2 := Lib.hid ((HS.out.set hk (decide (k ≠ a))).congr (G := fun j => if j < k + 1 then decide (j ≠ a) else false) fun j hj => by
        by_cases e : j = k
        · rw [e, updB_at, if_pos (by omega)]
        · rw [updB_no e]
          by_cases e2 : j < k
          · rw [if_pos e2, if_pos (by omega)]
          · rw [if_neg e2, if_neg (by omega)])
      have HG2 := Lib.hid (HG.out.other o1 hne)
      have HB2 := Lib.hid (HB.out.trans (o1.below hbw))
      clear o1 hne
      obtain ⟨q, hq⟩ : ∃ q, q = decide (k ≠ a) := ⟨_, rfl⟩
      rw [← hq] at b1 HS2 HG2 HB2
      clear hq
      go_wp2_with fail
      go_roundw
      case rel => exact ⟨k + 1, by omega, by go_num, HS2.out, HG2.out, HB2.out⟩
      case measure => simp [intOf]; omega
    · obtain rfl : k = p := by omega
      have HS := Lib.hid (HS.out.congr (G := fun j => decide (j ≠ a)) fun j hj => by rw [if_pos hj])
      have HBN : Hid (Burn k (fun a b => btw f a b m) (fun k => zs.getD k 0) a (fun j => !decide (j ≠ a))) := by
        have h := Burn.start (P := k) (w := fun a b => btw f a b m) (D := fun k => zs.getD k 0) (a := a)
        have e : (fun j => !decide (j ≠ a)) = fun j => decide (j = a) := funext fun j => by
          by_cases e : j = a
          · rw [decide_eq_false (fun x => x e), decide_eq_true e]; rfl
          · rw [decide_eq_true e, decide_eq_false e]; rfl
        rw [e]; exact h
      obtain ⟨p, rfl⟩ : ∃ q, q = k := ⟨_, rfl⟩
      go_wp2_with fail
      go_loopg [9] (2 * (p - cntB p (fun j => !decide (j ≠ a))) + 1) (fun g z wr => ∃ (q : Bool) (F : Nat → Bool), z = .bool q ∧ Burn p (fun a b => btw f a b m) (fun k => zs.getD k 0) a (fun j => !F j) ∧ VecB wr bs p F ∧ Row wr w.heap.size 24 [.int .i64 (p : Int), .slice ea m ec] ∧ Below w.heap.size w wr ∧ (q = false → ∀ k, k < p → F k = true → (outS p (fun a b => btw f a b m) F k : Int) ≤ zs.getD k 0) ∧ g = 2 * (p - cntB p (fun j => !F j)) + (if q = true then 1 else 0))
      case atStart => exact ⟨true, _, rfl, HBN.out, HS.out, HG.out, HB.out, fun h => (by cases h), rfl⟩
      case round =>
        clear HS HBN HG HB g0 hne
        obtain ⟨q, F, rfl, hbn, hs, hg, hb, hz, hgk⟩ := hrel
        have HBN := Lib.hid hbn
        have HS := Lib.hid hs
        have HG := Lib.hid hg
        have HB := Lib.hid hb
        have HZ := Lib.hid hz
        have HGK := Lib.hid hgk
        clear hbn hs hg hb hz hgk
        cases q
        case false =>
          go_wp2_with fail
          go_ret
          exact ⟨bs, rfl, hbw, F, HS.out, HBN.out, HZ.out (by trivial), HB.out⟩
        case true =>
          go_wp2_with fail
          go_loopw [9, 10] (fun y z wr => ∃ (q : Bool) (k : Nat) (c : Nat → Bool), k ≤ p ∧ z = .int .i64 (k : Int) ∧ y = .bool q ∧ Burn p (fun a b => btw f a b m) (fun k => zs.getD k 0) a (fun j => !c j) ∧ VecB wr bs p c ∧ Row wr w.heap.size 24 [.int .i64 (p : Int), .slice ea m ec] ∧ Below w.heap.size w wr ∧ (q = false → c = F ∧ ∀ j, j < k → c j = true → (outS p (fun a b => btw f a b m) c j : Int) ≤ zs.getD j 0) ∧ (q = true → cntB p (fun j => !F j) + 1 ≤ cntB p (fun j => !c j))) (fun _ z _ => p - (intOf z).toNat)
          case atStart => exact ⟨false, 0, F, Nat.zero_le _, rfl, rfl, HBN.out, HS.out, HG.out, HB.out, fun _ => ⟨rfl, fun j hj => absurd hj (Nat.not_lt_zero _)⟩, fun h => (by cases h)⟩
          case round =>
            clear HS HG HB HBN HZ
            obtain ⟨q, k, c, hkp, rfl, rfl, hbn, hs, hg, hb, hz, hm⟩ := hrel
            have HBN := Lib.hid hbn
            have HS := Lib.hid hs
            have HG := Lib.hid hg
            have HB := Lib.hid hb
            have HZ := Lib.hid hz
            have HM := Lib.hid hm
            have g0 := hg.cell 0
            dsimp only [List.getElem?_cons_zero] at g0
            clear hbn hs hg hb hz hm
            by_cases hk : k < p
            · have hk2 : (k : Int) < (p : Int) := by omega
              have s1 := HS.out.cell hk
              have HCT : Hid (c k = true → cntB p (fun j => !(updB c k false j)) = cntB p (fun j => !c j) + 1) := fun h => by
                show _ = _
                rw [not_upd]
                exact cntB_add hk (show (!c k) = false by rw [h]; rfl)
              have HNX : Hid ((c k = true → (outS p (fun a b => btw f a b m) c k : Int) ≤ zs.getD k 0) → q = false → c = F ∧ ∀ j, j < k + 1 → c j = true → (outS p (fun a b => btw f a b m) c j : Int) ≤ zs.getD j 0) := fun h hq => ⟨(HZ.out hq).1, fun j hj hc => by
                by_cases e : j = k
                · rw [e] at hc ⊢; exact h hc
                · exact (HZ.out hq).2 j (by omega) hc⟩
              obtain ⟨ck, hck⟩ : ∃ z, z = c k := ⟨_, rfl⟩
              rw [← hck] at s1 HCT HNX
              clear hck
              cases ck
              case false =>
                have HN2 := Lib.hid (HNX.out fun h => (by cases h))
                go_wp2_with fail
                go_roundw
                case rel => exact ⟨q, k + 1, c, by omega, by go_num, rfl, HBN.out, HS.out, HG.out, HB.out, HN2.out, HM.out⟩
                case measure => simp [intOf]; omega
              case true =>
                have l1 := row_range HG.out
                go_wp2_with (refine wpList_load_mid rfl 24 _ rfl w.heap.size 0 rfl _ _ l1 Try.underlying24 rfl infoGraph ?_)
                clear l1
                refine (outer_any p ea m ec f k bs p c false wr (rows_keep HE.out HB.out) HOK.out.m40 HOK.out.edge hp10 HS.out).mono ?_
                rintro e1 w4 ⟨rfl, hb4⟩
                have HS4 := Lib.hid (HS.out.keep hb4 HS.out.lt)
                have HG4 := Lib.hid (HG.out.keep hb4 HG.out.lt)
                have HB4 := Lib.hid (HB.out.trans (hb4.mono HB.out.size))
                clear hb4 HS HG HB s1 g0
                rw [outN_out ((gr_of HOK.out).own k)]
                have g0 := HG4.out.cell 0
                dsimp only [List.getElem?_cons_zero] at g0
                obtain ⟨bz, oz, rfl, _, hcz⟩ := (HD.out.keep HB4.out).cells k hk
                dsimp only at hcz
                have HST : Hid (zs.getD k 0 < (outS p (fun a b => btw f a b m) c k : Int) → Burn p (fun a b => btw f a b m) (fun k => zs.getD k 0) a (fun j => !(updB c k false j))) := fun h => by
                  show Burn _ _ _ _ _
                  rw [not_upd]
                  exact HBN.out.step hk (by rw [← out_not]; exact h)
                obtain ⟨n, hn⟩ : ∃ n, n = outS p (fun a b => btw f a b m) c k := ⟨_, rfl⟩
                rw [← hn] at HNX HST ⊢
                clear hn
                obtain ⟨dk, hdk⟩ : ∃ z, z = zs.getD k 0 := ⟨_, rfl⟩
                rw [← hdk] at hcz HST HNX
                clear hdk
                by_cases hlt : dk < (n : Int)
                · have HB2 := Lib.hid (HST.out hlt)
                  have HC2 := Lib.hid (HCT.out (by trivial))
                  have z1 := HS4.out.frozen k
                  have s1 := HS4.out.cell hk
                  have hne : w.heap.size ≠ bs := by
                    obtain ⟨c1, h1, _⟩ := HS4.out.row
                    exact row_ne HG4.out h1 (by decide)
                  have o1 := only_setCell w4 bs k (.bool false)
                  have HS2 := Lib.hid (HS4.out.set hk false)
                  have HG2 := Lib.hid (HG4.out.other o1 hne)
                  have HBB := Lib.hid (HB4.out.trans (o1.below hbw))
                  have HM2 : Hid (cntB p (fun j => !F j) + 1 ≤ cntB p (fun j => !(updB c k false j))) := by
                    show _ ≤ _
                    rw [HC2.out]
                    cases q
                    · rw [(HZ.out (by trivial)).1]; omega
                    · have := HM.out (by trivial); omega
                  clear o1 hne
                  go_wp2_with fail
                  go_roundw
                  case rel => exact ⟨true, k + 1, updB c k false, by omega, by go_num, rfl, HB2.out, HS2.out, HG2.out, HBB.out, fun h => (by cases h), fun _ => HM2.out⟩
                  case measure => simp [intOf]; omega
                · have HN2 := Lib.hid (HNX.out fun _ => by omega)
                  go_wp2_with fail
                  go_roundw
                  case rel => exact ⟨q, k + 1, c, by omega, by go_num, rfl, HBN.out, HS4.out, HG4.out, HB4.out, HN2.out, HM.out⟩
                  case measure => simp [intOf]; omega
            · obtain rfl : k = p := by omega
              go_wp2_with fail
              go_roundg (2 * (k - cntB k (fun j => !c j)) + (if q = true then 1 else 0))
              case measure =>
                have h1 := HGK.out
                have hc1 := cntB_le (P := k) (b := fun j => !c j)
                cases q
                · have h2 := (HZ.out rfl).1
                  rw [h2, if_neg (by decide)]; rw [if_pos trivial] at h1; omega
                · have h2 := HM.out rfl
                  rw [if_pos rfl]; rw [if_pos trivial] at h1; omega
              case rel => exact ⟨q, c, rfl, HBN.out, HS.out, HG.out, HB.out, fun h => (HZ.out h).2, rfl⟩
end Ch
end Go.Proofs.Ytjikildiblchpaa

/- THE FACT of ChipsFires: two places, two edges: what is reduced of three chips; laws on lists. -/
namespace Go.Proofs.Ytjikildiblchpaa
set_option linter.unusedSimpArgs false
set_option linter.unusedVariables false
open Go.RowKit Go.Lib
namespace Ch
open Tld Mem Rt

/-- The graph of two places and one edge, twice. -/
def t2 (_ j : Nat) : Int := if j = 0 then 0 else if j = 1 then 1 else 2
theorem t2_edge : EdgeOk 2 t2 0 := by unfold EdgeOk t2; decide
theorem t2_conn : ConnG 2 t2 1 := fun k hk => by
  have h0 : Rt.Reach t2 1 0 := reach_zero
  have hb : Btw t2 0 0 1 := by decide
  match k, hk with
  | 0, _ => exact h0
  | 1, _ => exact h0.step (by omega) hb
theorem t2_ok : gfault 2 1 t2 = 0 := gfault_ok (by omega) (by omega) (fun i hi => by
  obtain rfl : i = 0 := by omega
  exact t2_edge) t2_conn
theorem t2_rows {w : World} {b : Nat} (h : Row w b 27 [.int .i64 0, .int .i64 1, .int .i64 2]) : Mem.Rows w (some ⟨b, 0, none⟩) 1 3 (fun i j => .int .i64 (t2 i j)) := fun i hi => by
  obtain rfl : i = 0 := by omega
  refine ⟨b, 0, rfl, h.lt, fun j hj => ?_⟩
  rw [show 0 + 0 * 3 + j = j by omega, h.cell j]
  match j, hj with
  | 0, _ => rfl
  | 1, _ => rfl
  | 2, _ => rfl
theorem t2_ch : chfault 2 1 t2 [[0, 3]] = 0 := by
  rw [chfault_l t2_ok]; decide
theorem t2_red {R : Nat → Int} (hE : Eqv 2 (fun a b => btw t2 a b 1) (fun k => [(0 : Int), 3].getD k 0) R) (hR : Reduced 2 (fun a b => btw t2 a b 1) R 0) : R 0 = 2 ∧ R 1 = 1 := by
  have h1 : Eqv 2 (fun a b => btw t2 a b 1) (fun k => [(0 : Int), 3].getD k 0) (fun k => [(2 : Int), 1].getD k 0) := ⟨fun k => if k = 1 then 1 else 0, fun k hk => by
    match k, hk with
    | 0, _ => decide
    | 1, _ => decide⟩
  have h2 : Reduced 2 (fun a b => btw t2 a b 1) (fun k => [(2 : Int), 1].getD k 0) 0 := by
    refine ⟨fun k hk hne => ?_, fun S hS k hk => ?_⟩
    · match k, hk with
      | 0, _ => exact absurd rfl hne
      | 1, _ => decide
    · match k, hk with
      | 0, _ => exact hS.no
      | 1, _ =>
        cases h : S 1
        · rfl
        · have h3 := hS.can 1 (by omega) h
          have h4 : outS 2 (fun a b => btw t2 a b 1) S 1 = 2 := by
            show (0 + if S 0 = true then 0 else btw t2 1 0 1) + (if S 1 = true then 0 else btw t2 1 1 1) = 2
            rw [hS.no, h]; decide
          rw [h4] at h3
          exact absurd h3 (by decide)
  have h3 := h2.unique hR (h1.symm.trans hE) (by omega)
  exact ⟨(h3 0 (by omega)).symm, (h3 1 (by omega)).symm⟩
theorem eqv_lst {p : Nat} {E : Nat → Nat → Nat} {R : Nat → Int} : Eqv p E R (fun k => (lstF p R).getD k 0) := .of_eq fun k hk => (lstF_get hk).symm
theorem sum_lst {p : Nat} {R : Nat → Int} : sumZ (fun k => (lstF p R).getD k 0) p = sumZ R p := sumZ_congr fun k hk => lstF_get hk
theorem legal_lst {p : Nat} {E : Nat → Nat → Nat} {R : Nat → Int} {a : Nat} {F : Nat → Bool} (hb : Burn p E (fun k => (lstF p R).getD k 0) a (fun j => !F j)) (hl : ∀ k, k < p → F k = true → (outS p E F k : Int) ≤ (lstF p R).getD k 0) : Legal p E R a F := by
  refine ⟨?_, fun k hk hf => ?_⟩
  · have h1 : (!F a) = true := hb.at0
    simpa using h1
  · have h1 := hl k hk hf
    rw [lstF_get hk] at h1
    exact h1
theorem ch_one {p m : Nat} {f : Nat → Nat → Int} {zs : List Int} (hg : gfault (p : Int) m f = 0) (hz : dfault p zs = 0) : chfault (p : Int) m f [zs] = 0 := by
  rw [chfault_l hg, Int.toNat_natCast]
  unfold lchk
  rw [if_neg (fun h => h hz)]
  rfl
theorem ch_two {p m : Nat} {f : Nat → Nat → Int} {zs ys : List Int} (hg : gfault (p : Int) m f = 0) (hz : dfault p zs = 0) (hy : dfault p ys = 0) : chfault (p : Int) m f [zs, ys] = 0 := by
  rw [chfault_l hg, Int.toNat_natCast]
  unfold lchk
  rw [if_neg (fun h => h hz)]
  unfold lchk
  rw [if_neg (fun h => h hy)]
  rfl
theorem ch_g {P : Int} {m : Nat} {f : Nat → Nat → Int} {L : List (List Int)} (h : chfault P m f L = 0) : gfault P m f = 0 := Classical.byContradiction fun hn => by
  rw [chfault_g hn] at h
  exact hn h
theorem ch_d {p m : Nat} {f : Nat → Nat → Int} {zs : List Int} (h : chfault (p : Int) m f [zs] = 0) : dfault p zs = 0 := by
  rw [chfault_l (ch_g h), Int.toNat_natCast] at h
  unfold lchk at h
  by_cases h1 : dfault p zs ≠ 0
  · rw [if_pos h1] at h; exact absurd h h1
  · exact Classical.byContradiction h1
end Ch
end Go.Proofs.Ytjikildiblchpaa

/- WALK: chips.sum (of degrees), chips.Genus. -/
namespace Go.Proofs.Ytjikildiblchpaa
set_option linter.unusedSimpArgs false
set_option linter.unusedVariables false
open Go.RowKit Go.Lib
namespace Ch
open Tld Mem Rt

theorem deg_total {P : Nat} {f : Nat → Nat → Int} : ∀ {m : Nat}, (∀ i, i < m → EdgeN P f i) → sumN (fun k => deg f k m) P = 2 * sumN (fun i => eT f i) m
  | 0, _ => by
    rw [sumN_congr (F := fun k => deg f k 0) (G := fun _ => 0) fun _ _ => rfl]
    exact sumN_zero
  | m + 1, h => by
    have ih := deg_total (m := m) fun i hi => h i (by omega)
    have hm := h m (by omega)
    have e : sumN (fun k => deg f k (m + 1)) P = sumN (fun k => deg f k m) P + (sumN (fun k => if eA f m = k then eT f m else 0) P + sumN (fun k => if eB f m = k then eT f m else 0) P) := by
      rw [← sumN_add, ← sumN_add]
      refine sumN_congr fun k _ => ?_
      have hne := hm.ne
      show deg f k (m + 1) = deg f k m + ((if eA f m = k then eT f m else 0) + if eB f m = k then eT f m else 0)
      rw [deg_succ]
      congr 1
      by_cases h1 : eA f m = k
      · rw [if_pos (.inl h1), if_pos h1, if_neg (by omega)]; rfl
      · by_cases h2 : eB f m = k
        · rw [if_pos (.inr h2), if_neg h1, if_pos h2, Nat.zero_add]
        · rw [if_neg (fun h => h.elim h1 h2), if_neg h1, if_neg h2]
    rw [e, ih]
    have e1 := sumN_pickF (a := eA f m) (F := fun _ => eT f m) (n := P)
    have e2 := sumN_pickF (a := eB f m) (F := fun _ => eT f m) (n := P)
    rw [if_pos hm.al] at e1
    rw [if_pos hm.bl] at e2
    rw [e1, e2]
    show _ = 2 * (sumN (fun i => eT f i) m + eT f m)
    omega
/-- The genus. -/
def genZ (p m : Nat) (f : Nat → Nat → Int) : Int := 1 - (p : Int) + (sumN (fun i => eT f i) m : Int)
/-- The canonical divisor. -/
def canL (p m : Nat) (f : Nat → Nat → Int) : Nat → List Int
  | 0 => []
  | k + 1 => canL p m f k ++ [(deg f k m : Int) - 2]
theorem canL_len {p m : Nat} {f : Nat → Nat → Int} : ∀ {k : Nat}, (canL p m f k).length = k
  | 0 => rfl
  | k + 1 => by
    show (canL p m f k ++ _).length = _
    rw [List.length_append, canL_len]; rfl
theorem canL_snoc {p m k : Nat} {f : Nat → Nat → Int} : (canL p m f (k + 1)).map (Value.int .i64) = (canL p m f k).map (Value.int .i64) ++ [.int .i64 ((deg f k m : Int) - 2)] := by
  show (canL p m f k ++ _).map _ = _
  rw [List.map_append]; rfl

set_option maxHeartbeats 4000000 in
theorem sumD_any (b P c : Nat) (F : Nat → Nat) (w : World) (hV : ∀ k, k < P → w.cell? ⟨b, k, none⟩ = some (.int .i64 (F k : Int))) (hP : P ≤ 10) (hF : ∀ k, k < P → F k ≤ 4000) :
    Calls Try.prog 28 #[.slice (some ⟨b, 0, none⟩) P c] w fun e w' => e = .returned (.int .i64 (sumN F P : Nat)) ∧ w' = w := by
  have HV := Lib.hid hV
  have HS : Hid (∀ k, k ≤ P → sumN F k ≤ 4000 * k) := fun k hk => by
    have := sumN_le (F := F) (G := fun _ => 4000) (n := k) fun i hi => hF i (by omega)
    rw [sumN_const] at this
    omega
  have HF := Lib.hid hF
  clear hV hF
  go_enter Try.func28, Try.ntmps28
  go_wp2_with fail
  go_loopw [2, 7] (fun y z wr => ∃ k : Nat, k ≤ P ∧ y = .int .i64 (sumN F k : Nat) ∧ z = .int .i64 (k : Int) ∧ wr = w) (fun _ z _ => P - (intOf z).toNat)
  case atStart => exact ⟨0, Nat.zero_le _, rfl, rfl, rfl⟩
  case round =>
    obtain ⟨k, hkP, rfl, rfl, rfl⟩ := hrel
    have hs := HS.out k hkP
    by_cases hk : k < P
    · have hk2 : (k : Int) < (P : Int) := by omega
      have c1 := HV.out k hk
      have hf := HF.out k hk
      have HNX : Hid (sumN F (k + 1) = sumN F k + F k) := rfl
      obtain ⟨s, hs'⟩ : ∃ s, s = sumN F k := ⟨_, rfl⟩
      rw [← hs'] at HNX hs ⊢
      clear hs'
      obtain ⟨x, hx⟩ : ∃ x, x = F k := ⟨_, rfl⟩
      rw [← hx] at HNX c1 hf
      clear hx
      have hf1 : (s : Int) + (x : Int) ≤ 9223372036854775807 := by omega
      have hf2 : (-9223372036854775808 : Int) ≤ (s : Int) + (x : Int) := by omega
      go_wp2_with fail
      go_roundw
      case rel => exact ⟨k + 1, by omega, by rw [HNX.out, Int.natCast_add], by go_num, by trivial⟩
      case measure => simp [intOf]; omega
    · obtain rfl : k = P := by omega
      go_wp2_with fail
      go_ret
      exact ⟨rfl, rfl⟩
theorem lst_nil (w : World) : Lst w none [] (fun _ => none) (fun _ => 0) := fun j hj => absurd hj (Nat.not_lt_zero _)
theorem ch_nil {P : Int} {m : Nat} {f : Nat → Nat → Int} : chfault P m f [] = gfault P m f := by
  by_cases h : gfault P m f = 0
  · rw [chfault_l h, h]; rfl
  · rw [chfault_g h]
theorem chk_nil {P : Int} {m : Nat} {f : Nat → Nat → Int} {w w' : World} {e : Ending} (h : ChkPost P m f [] w e w') : ((gfault P m f ≠ 0 ∧ e = .returned (.tuple #[.pointer none, errV (gfault P m f)])) ∨ (gfault P m f = 0 ∧ ∃ bn, e = .returned (.tuple #[.pointer (some ⟨bn, 0, none⟩), .nilIface]) ∧ Net w' bn P.toNat (fun a b => btw f a b m) (fun a => deg f a m))) ∧ Below w.heap.size w w' := by
  unfold ChkPost at h
  rw [ch_nil] at h
  exact h

set_option maxHeartbeats 8000000 in
set_option maxRecDepth 1000000 in
theorem genusP_any (P : Int) (ea : Option Addr) (m ec : Nat) (f : Nat → Nat → Int) (w : World) (hE : Mem.Rows w ea m 3 (fun i j => .int .i64 (f i j))) (hm : m ≤ 9223372036854775807) :
    Calls Try.prog 18 #[.agg #[.int .i64 P, .slice ea m ec]] w fun e w' => ((gfault P m f ≠ 0 ∧ e = .returned (.tuple #[.int .i64 0, errV (gfault P m f)])) ∨ (gfault P m f = 0 ∧ e = .returned (.tuple #[.int .i64 (genZ P.toNat m f), .nilIface]))) ∧ Below w.heap.size w w' := by
  have HE := Lib.hid hE
  clear hE
  go_enter Try.func18, Try.ntmps18
  go_upto_region 1 with fail
  have hR : Row (w.alloc (.cells #[.int .i64 P, .slice ea m ec] 24)) w.heap.size 24 [.int .i64 P, .slice ea m ec] := row_alloc w _ _
  have hB : Below w.heap.size w (w.alloc (.cells #[.int .i64 P, .slice ea m ec] 24)) := (Below.refl _ _).alloc (Nat.le_refl _) _
  have HG := Lib.hid hR
  have HB := Lib.hid hB
  clear hR hB
  generalize w.alloc (.cells #[.int .i64 P, .slice ea m ec] 24) = w1 at *
  have l1 := row_range HG.out
  go_wp2_with (refine wpList_load_mid rfl 24 _ rfl w.heap.size 0 rfl _ _ l1 Try.underlying24 rfl infoGraph ?_)
  clear l1
  refine (chk_any P ea m ec f none 0 0 [] _ _ w1 (rows_keep HE.out HB.out) hm (lst_nil w1) rfl (by omega)).mono ?_
  intro e1 w2 hpost
  obtain ⟨⟨hf, rfl⟩ | ⟨hf, bn, rfl, hnet⟩, hb2⟩ := chk_nil hpost
  · have HB2 := Lib.hid (HB.out.trans (hb2.mono HB.out.size))
    have HF := Lib.hid hf
    rw [errV_some hf]
    clear hf hb2 hpost
    go_wp2_with fail
    go_ret2
    exact ⟨.inl ⟨HF.out, by rw [errV_some HF.out]; rfl⟩, HB2.out⟩
  · obtain ⟨p, rfl, hok⟩ := gfault_zero hf
    have HF := Lib.hid hf
    have HG2 := Lib.hid (HG.out.keep hb2 HG.out.lt)
    have HB2 := Lib.hid (HB.out.trans (hb2.mono HB.out.size))
    rw [Int.toNat_natCast] at hnet
    obtain ⟨be, ce, bd, cd, bk, h1, h2, h3⟩ := hnet.ex
    have hp10 := hok.p10
    have hm40 := hok.m40
    have HDT := Lib.hid (deg_total hok.edge)
    have HSD : Hid (∀ w', w'.heap = w2.heap → Calls Try.prog 28 #[.slice (some ⟨bd, 0, none⟩) p cd] w' fun e w'' => e = .returned (.int .i64 (sumN (fun a => deg f a m) p : Nat)) ∧ w'' = w') := fun w' hw => sumD_any bd p cd (fun a => deg f a m) w' (fun k hk => by
      rw [show w'.cell? ⟨bd, k, none⟩ = w2.cell? ⟨bd, k, none⟩ from World.cell?_of_block (by rw [hw])]
      exact (h3 k hk).2.1) hp10 (fun k hk => Nat.le_trans (deg_le hok.edge) (by omega))
    have hst : sumN (fun i => eT f i) m ≤ 4000 := by
      have := sumN_le (F := fun i => eT f i) (G := fun _ => 100) (n := m) fun i hi => (hok.edge i hi).th
      rw [sumN_const] at this
      omega
    have HGZ : Hid (genZ ((p : Int).toNat) m f = (sumN (fun i => eT f i) m : Int) - (p : Int) + 1) := by
      show _ = _
      rw [Int.toNat_natCast]
      unfold genZ; omega
    rw [HDT.out] at HSD
    generalize sumN (fun i => eT f i) m = st at *
    have g0 := HG2.out.cell 0
    dsimp only [List.getElem?_cons_zero] at g0
    have hq : ((2 * st : Nat) : Int).tdiv 2 = (st : Int) := by
      have : ((2 * st : Nat) : Int).tdiv ((2 : Nat) : Int) = ((2 * st / 2 : Nat) : Int) := Int.ofNat_tdiv _ _
      rw [Nat.mul_div_cancel_left _ (by omega)] at this
      exact this
    have hq2 : (2 * (st : Int)).tdiv 2 = (st : Int) := by
      have h : 2 * (st : Int) = ((2 * st : Nat) : Int) := by omega
      rw [h]; exact hq
    have hw1 : IntKind.i64.wrap (st : Int) = (st : Int) := by rw [IntWalk.i64_left]; unfold wrap64; omega
    have hw2 : IntKind.i64.wrap ((st : Int) - (p : Int)) = (st : Int) - (p : Int) := by rw [IntWalk.i64_left]; unfold wrap64; omega
    have hw3 : IntKind.i64.wrap ((st : Int) - (p : Int) + 1) = (st : Int) - (p : Int) + 1 := by rw [IntWalk.i64_left]; unfold wrap64; omega
    have hf1 : (-9223372036854775808 : Int) ≤ (st : Int) - (p : Int) := by omega
    have hf2 : (st : Int) - (p : Int) + 1 ≤ 9223372036854775807 := by omega
    clear hf hok hnet hb2 hpost h3 HDT
    go_upto_region 4 with fail
    go_region_with (refine (HSD.out _ ?_).mono ?_; rfl; rintro e w' ⟨rfl, rfl⟩)
    all_goals
      go_wp2_with fail
      go_ret2
      exact ⟨.inr ⟨HF.out, by rw [HGZ.out]; rfl⟩, HB2.out.trans ((Below.refl _ _).drew)⟩
end Ch
end Go.Proofs.Ytjikildiblchpaa

/- WALK: chips.Canonical. -/
namespace Go.Proofs.Ytjikildiblchpaa
set_option linter.unusedSimpArgs false
set_option linter.unusedVariables false
open Go.RowKit Go.Lib
namespace Ch
open Tld Mem Rt

set_option maxHeartbeats 8000000 in
set_option maxRecDepth 1000000 in
theorem canP_any (P : Int) (ea : Option Addr) (m ec : Nat) (f : Nat → Nat → Int) (w : World) (hE : Mem.Rows w ea m 3 (fun i j => .int .i64 (f i j))) (hm : m ≤ 9223372036854775807) :
    Calls Try.prog 19 #[.agg #[.int .i64 P, .slice ea m ec]] w fun e w' => ((gfault P m f ≠ 0 ∧ e = .returned (.tuple #[.slice none 0 0, errV (gfault P m f)])) ∨ (gfault P m f = 0 ∧ ∃ (p : Nat) (a : Option Addr) (c : Nat), P = (p : Int) ∧ e = .returned (.tuple #[.slice a p c, .nilIface]) ∧ Ints.Is w' a p (canL p m f p))) ∧ Below w.heap.size w w' := by
  obtain ⟨i0, hI0, hz0, hz1, hz2⟩ := info_parts infoIntN
  have HI0 := Lib.hid hI0
  have HZ0 := Lib.hid hz0
  have HZ1 := Lib.hid hz1
  have HZ2 := Lib.hid hz2
  have HE := Lib.hid hE
  clear hE hI0 hz0 hz1 hz2
  go_enter Try.func19, Try.ntmps19
  go_upto_region 1 with fail
  have hR : Row (w.alloc (.cells #[.int .i64 P, .slice ea m ec] 24)) w.heap.size 24 [.int .i64 P, .slice ea m ec] := row_alloc w _ _
  have hB : Below w.heap.size w (w.alloc (.cells #[.int .i64 P, .slice ea m ec] 24)) := (Below.refl _ _).alloc (Nat.le_refl _) _
  have HG := Lib.hid hR
  have HB := Lib.hid hB
  clear hR hB
  generalize w.alloc (.cells #[.int .i64 P, .slice ea m ec] 24) = w1 at *
  have l1 := row_range HG.out
  go_wp2_with (refine wpList_load_mid rfl 24 _ rfl w.heap.size 0 rfl _ _ l1 Try.underlying24 rfl infoGraph ?_)
  clear l1
  refine (chk_any P ea m ec f none 0 0 [] _ _ w1 (rows_keep HE.out HB.out) hm (lst_nil w1) rfl (by omega)).mono ?_
  intro e1 w2 hpost
  obtain ⟨⟨hf, rfl⟩ | ⟨hf, bn, rfl, hnet⟩, hb2⟩ := chk_nil hpost
  · have HB2 := Lib.hid (HB.out.trans (hb2.mono HB.out.size))
    have HF := Lib.hid hf
    rw [errV_some hf]
    clear hf hb2 hpost
    go_wp2_with fail
    go_ret2
    exact ⟨.inl ⟨HF.out, by rw [errV_some HF.out]; rfl⟩, HB2.out⟩
  · obtain ⟨p, rfl, hok⟩ := gfault_zero hf
    have HF := Lib.hid hf
    have HB2 := Lib.hid (HB.out.trans (hb2.mono HB.out.size))
    have hbw2 : w.heap.size ≤ w2.heap.size := HB2.out.size
    rw [Int.toNat_natCast] at hnet
    obtain ⟨be, ce, bd, cd, bk, h1, h2, h3⟩ := hnet.ex
    have hp10 := hok.p10
    have HD4 : Hid (∀ k, deg f k m ≤ 4000) := fun k => Nat.le_trans (deg_le hok.edge) (by have := hok.m40; omega)
    have HDC : Hid (∀ k, k < p → w2.cell? ⟨bd, k, none⟩ = some (.int .i64 (deg f k m : Int)) ∧ bd < w2.heap.size) := fun k hk => ⟨(h3 k hk).2.1, lt_of_cell (h3 k hk).2.1⟩
    have HO := Lib.hid (own_nil w2 w2.heap.size)
    have HBX : Hid (Below w2.heap.size w2 w2) := Below.refl _ _
    clear hf hok hnet hb2 hpost h3
    go_wp2_with fail
    clear h1 h2
    go_loopw [6, 22] (fun y z wr => ∃ (k : Nat) (ao : Option Addr) (co : Nat), k ≤ p ∧ y = .slice ao k co ∧ z = .int .i64 (k : Int) ∧ wr.ownsRow w2.heap.size 3 1 (.slice ao k co) k ((canL p m f k).map (Value.int .i64)) ∧ Below w2.heap.size w2 wr) (fun _ z _ => p - (intOf z).toNat)
    case atStart => exact ⟨0, none, 0, Nat.zero_le _, rfl, rfl, HO.out, HBX.out⟩
    case round =>
      clear HO HBX
      obtain ⟨k, ao, co, hkp, rfl, rfl, ho, hb⟩ := hrel
      have HO := Lib.hid ho
      have HBX := Lib.hid hb
      clear ho hb
      by_cases hk : k < p
      · have hk2 : (k : Int) < (p : Int) := by omega
        have c1 := HDC.out k hk
        have c2 : wr.cell? ⟨bd, k, none⟩ = some (.int .i64 (deg f k m : Int)) := by rw [HBX.out.cell c1.2]; exact c1.1
        clear c1
        have hx4 := HD4.out k
        have HNX : Hid ((canL p m f (k + 1)).map (Value.int .i64) = (canL p m f k).map (Value.int .i64) ++ [.int .i64 ((deg f k m : Int) - 2)]) := canL_snoc
        obtain ⟨x, hx⟩ : ∃ x, x = deg f k m := ⟨_, rfl⟩
        rw [← hx] at c2 hx4 HNX
        clear hx
        have hf1 : (-9223372036854775808 : Int) ≤ (x : Int) - 2 := by omega
        have hf2 : (x : Int) - 2 ≤ 9223372036854775807 := by omega
        have c3 : (wr.alloc (.cells [.int .i64 ((x : Int) - 2)].toArray 3)).cell? ⟨bd, k, none⟩ = some (.int .i64 (x : Int)) := cell_keep c2 ((Below.refl _ _).alloc (Nat.le_refl _) _)
        have hnew := row_alloc wr 3 [.int .i64 ((x : Int) - 2)]
        have hbn : Below wr.heap.size wr (wr.alloc (.cells [.int .i64 ((x : Int) - 2)].toArray 3)) := (Below.refl _ _).alloc (Nat.le_refl _) _
        have HOa := Lib.hid (own_keep HO.out hbn)
        have HBa := Lib.hid (HBX.out.trans (hbn.mono HBX.out.size))
        have HCEL := Lib.hid (hnew.cell 0)
        have HSZ : Hid (w2.heap.size ≤ (wr.alloc (.cells [.int .i64 ((x : Int) - 2)].toArray 3)).heap.size) := HBa.out.size
        clear hnew hbn HO HBX
        go_wp2_with (at_builtin; refine Ops.wpList_append1 rfl _ _ 25 rfl w2.heap.size 3 i0 (.int .i64 0) 8 Try.underlying25 HI0.out HZ0.out rfl HZ1.out HZ2.out _ k _ rfl HOa.out ⟨wr.heap.size, 0, none⟩ 1 (.int .i64 ((x : Int) - 2)) rfl HCEL.out rfl ?c1 ?c2 HSZ.out ?_)
        case c1 => unfold maxLen; omega
        case c2 => omega
        intro ao' co' w5 hO3 hg3
        have HB3 := Lib.hid (HBa.out.grown hg3 HSZ.out (own_low HOa.out))
        rw [← HNX.out] at hO3
        have HO3 := Lib.hid hO3
        clear hO3 hg3 HOa HBa HCEL HSZ
        go_wp2_with fail
        go_roundw
        case rel => exact ⟨k + 1, ao', co', by omega, rfl, by go_num, HO3.out, HB3.out⟩
        case measure => simp [intOf]; omega
      · obtain rfl : k = p := by omega
        have HI := Lib.hid (own_is HO.out canL_len (by unfold maxLen; omega)).1
        have HBF := Lib.hid (HB2.out.trans (HBX.out.mono HB2.out.size))
        go_wp2_with fail
        go_ret2
        exact ⟨.inr ⟨HF.out, k, ao, co, rfl, rfl, HI.out⟩, HBF.out⟩

end Ch
end Go.Proofs.Ytjikildiblchpaa
