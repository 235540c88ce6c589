/- WALK of the document's answer: edenref6.Between, Divisor, Sum. -/
import Derived.Test.YtjikildiblchpaaChC
import Derived.Test.YtjikildiblchpaaChPl
import Derived.Test.YtjikildiblchpaaRtR
namespace Go.Proofs.Ytjikildiblchpaa
set_option linter.unusedSimpArgs false
set_option linter.unusedVariables false
open Go.RowKit Go.Lib
namespace Ch
open Tld Mem Rt

set_option maxHeartbeats 8000000 in
set_option maxRecDepth 1000000 in
theorem between_any (P : Int) (p : Nat) (ea : Option Addr) (m ec : Nat) (f : Nat → Nat → Int) (k o : Nat) (w : World) (hE : Mem.Rows w ea m 3 (fun i j => .int .i64 (f i j))) (hm : m ≤ 40) (hN : ∀ i, i < m → EdgeN p f i) :
    Calls Try.prog 41 #[.agg #[.int .i64 P, .slice ea m ec], .int .i64 (k : Int), .int .i64 (o : Int)] w fun e w' => e = .returned (.int .i64 (btw f k o m : Nat)) ∧ Below w.heap.size w w' := by
  have HER := Lib.hid hE
  have HEN := Lib.hid hN
  clear hE hN
  go_enter Try.func41, Try.ntmps41
  go_upto_region 1 with fail
  have hR : Row (w.alloc (.cells #[.int .i64 P, .slice ea m ec] 24)) w.heap.size 24 [.int .i64 P, .slice ea m ec] := row_alloc w _ _
  have hB : Below w.heap.size w (w.alloc (.cells #[.int .i64 P, .slice ea m ec] 24)) := (Below.refl _ _).alloc (Nat.le_refl _) _
  have HG := Lib.hid hR
  have HB := Lib.hid hB
  clear hR hB
  generalize w.alloc (.cells #[.int .i64 P, .slice ea m ec] 24) = w1 at *
  obtain ⟨bg, hbg⟩ : ∃ bg, bg = w.heap.size := ⟨_, rfl⟩
  rw [← hbg] at HG ⊢
  have hlg : w.heap.size ≤ bg := by omega
  clear hbg
  go_wp2_with fail
  go_loopw [7, 8] (fun z u wr => ∃ i : Nat, i ≤ m ∧ z = .int .i64 (btw f k o i : Nat) ∧ u = .int .i64 (i : Int) ∧ Row wr bg 24 [.int .i64 P, .slice ea m ec] ∧ Below w.heap.size w wr) (fun _ u _ => m - (intOf u).toNat)
  case atStart => exact ⟨0, Nat.zero_le _, rfl, rfl, HG.out, HB.out⟩
  case round =>
    clear HG HB
    obtain ⟨i, him, rfl, rfl, hg, hb⟩ := hrel
    have HG := Lib.hid hg
    have HB := Lib.hid hb
    have g1 := hg.cell 1
    dsimp only [List.getElem?_cons_succ, List.getElem?_cons_zero] at g1
    clear hg hb
    by_cases hlt : i < m
    · --{ROUND
      obtain ⟨b, off, rfl, hbl, hrest⟩ := HER.out i hlt
      clear hrest
      have l1 := edges_range (fun i hi => by
        obtain ⟨b', o', e, h1, h2⟩ := HER.out i hi
        exact ⟨b', o', e, Nat.lt_of_lt_of_le h1 HB.out.size, fun j hj => by rw [HB.out.cell h1]; exact h2 j hj⟩) hlt (w := wr) (b := b) (off := off)
      have hi2 : (i : Int) < (m : Int) := by omega
      have hN := HEN.out i hlt
      rw [hN.a, hN.b, hN.t] at l1
      have hd4 : btw f k o i ≤ 100 * i := btw_le fun j hj => HEN.out j (by omega)
      have HS := Lib.hid (btw_succ (f := f) (a := k) (b := o) (m := i))
      obtain ⟨d, hd⟩ : ∃ d, d = btw f k o i := ⟨_, rfl⟩
      rw [← hd] at HS hd4 ⊢
      have th := hN.th
      obtain ⟨a, ha⟩ : ∃ a, a = eA f i := ⟨_, rfl⟩
      obtain ⟨c, hc⟩ : ∃ c, c = eB f i := ⟨_, rfl⟩
      obtain ⟨t, ht⟩ : ∃ t, t = eT f i := ⟨_, rfl⟩
      rw [← ha, ← hc, ← ht] at l1
      rw [← ht] at HS
      rw [← ht] at th
      have HAE := Lib.hid ha
      have HCE := Lib.hid hc
      clear hN ha hc hd ht
      have hrow : Row (wr.alloc (.cells #[.int .i64 (a : Int), .int .i64 (c : Int), .int .i64 (t : Int)] 27)) wr.heap.size 27 [.int .i64 (a : Int), .int .i64 (c : Int), .int .i64 (t : Int)] := row_alloc wr _ _
      have hbn2 : Below wr.heap.size wr (wr.alloc (.cells #[.int .i64 (a : Int), .int .i64 (c : Int), .int .i64 (t : Int)] 27)) := (Below.refl _ _).alloc (Nat.le_refl _) _
      go_upto_region 6 with (refine wpList_load_mid rfl 27 _ rfl b (off + i * 3) rfl _ _ l1 Try.underlying27 rfl infoEdge ?_)
      have HG := Lib.hid (HG.out.keep hbn2 HG.out.lt)
      have HB := Lib.hid (HB.out.trans (hbn2.mono HB.out.size))
      have e0 := hrow.cell 0
      have e1 := hrow.cell 1
      have e2 := hrow.cell 2
      dsimp only [List.getElem?_cons_succ, List.getElem?_cons_zero] at e0 e1 e2
      clear hbn2 hrow l1
      generalize wr.alloc (.cells #[.int .i64 (a : Int), .int .i64 (c : Int), .int .i64 (t : Int)] 27) = w2 at *
      have hf1 : (-9223372036854775808 : Int) ≤ (d : Int) + (t : Int) := by omega
      have hf2 : (d : Int) + (t : Int) ≤ 9223372036854775807 := by omega
      have hab : Btw f i k o ↔ (a = k ∧ c = o) ∨ (a = o ∧ c = k) := by rw [HAE.out, HCE.out]; exact Iff.rfl
      have HYES : Hid ((a = k ∧ c = o) ∨ (a = o ∧ c = k) → btw f k o (i + 1) = d + t) := fun h => by rw [HS.out, if_pos (hab.2 h)]
      have HNO : Hid (¬ ((a = k ∧ c = o) ∨ (a = o ∧ c = k)) → btw f k o (i + 1) = d) := fun h => by rw [HS.out, if_neg (fun x => h (hab.1 x)), Nat.add_zero]
      clear hab
      have bb : ∀ x y : Nat, ((x : Int) == (y : Int)) = decide (x = y) := fun x y => by
        by_cases h : x = y
        · rw [h, decide_eq_true rfl]; exact beq_self_eq_true _
        · rw [decide_eq_false h, beq_eq_false_iff_ne]; omega
      have q1 := bb a k
      have q2 := bb c o
      have q3 := bb a o
      have q4 := bb c k
      clear bb
      by_cases h1 : a = k
      · by_cases h2 : c = o
        · have HS2 := Lib.hid (HYES.out (.inl ⟨h1, h2⟩))
          rw [decide_eq_true h1] at q1
          rw [decide_eq_true h2] at q2
          clear q3 q4 h1 h2 HYES HNO
          go_wp2_with fail
          go_roundw
          case rel => exact ⟨i + 1, by omega, by rw [HS2.out]; go_num, by go_num, HG.out, HB.out⟩
          case measure => simp [intOf]; omega
        · rw [decide_eq_true h1] at q1
          rw [decide_eq_false h2] at q2
          by_cases h3 : a = o
          · by_cases h4 : c = k
            · have HS2 := Lib.hid (HYES.out (.inr ⟨h3, h4⟩))
              rw [decide_eq_true h3] at q3
              rw [decide_eq_true h4] at q4
              clear h1 h2 h3 h4 HYES HNO
              go_wp2_with fail
              go_roundw
              case rel => exact ⟨i + 1, by omega, by rw [HS2.out]; go_num, by go_num, HG.out, HB.out⟩
              case measure => simp [intOf]; omega
            · have HS2 := Lib.hid (HNO.out fun h => h.elim (fun h => h2 h.2) (fun h => h4 h.2))
              rw [decide_eq_true h3] at q3
              rw [decide_eq_false h4] at q4
              clear h1 h2 h3 h4 HYES HNO
              go_wp2_with fail
              go_roundw
              case rel => exact ⟨i + 1, by omega, by rw [HS2.out], by go_num, HG.out, HB.out⟩
              case measure => simp [intOf]; omega
          · have HS2 := Lib.hid (HNO.out fun h => h.elim (fun h => h2 h.2) (fun h => h3 h.1))
            rw [decide_eq_false h3] at q3
            clear h1 h2 h3 HYES HNO
            go_wp2_with fail
            go_roundw
            case rel => exact ⟨i + 1, by omega, by rw [HS2.out], by go_num, HG.out, HB.out⟩
            case measure => simp [intOf]; omega
      · rw [decide_eq_false h1] at q1
        by_cases h3 : a = o
        · rw [decide_eq_true h3] at q3
          by_cases h4 : c = k
          · have HS2 := Lib.hid (HYES.out (.inr ⟨h3, h4⟩))
            rw [decide_eq_true h4] at q4
            clear h1 h3 h4 HYES HNO
            go_wp2_with fail
            go_roundw
            case rel => exact ⟨i + 1, by omega, by rw [HS2.out]; go_num, by go_num, HG.out, HB.out⟩
            case measure => simp [intOf]; omega
          · have HS2 := Lib.hid (HNO.out fun h => h.elim (fun h => h1 h.1) (fun h => h4 h.2))
            rw [decide_eq_false h4] at q4
            clear h1 h3 h4 HYES HNO
            go_wp2_with fail
            go_roundw
            case rel => exact ⟨i + 1, by omega, by rw [HS2.out], by go_num, HG.out, HB.out⟩
            case measure => simp [intOf]; omega
        · have HS2 := Lib.hid (HNO.out fun h => h.elim (fun h => h1 h.1) (fun h => h3 h.1))
          rw [decide_eq_false h3] at q3
          clear h1 h3 HYES HNO
          go_wp2_with fail
          go_roundw
          case rel => exact ⟨i + 1, by omega, by rw [HS2.out], by go_num, HG.out, HB.out⟩
          case measure => simp [intOf]; omega
      --}
    · --{END
      obtain rfl : i = m := by omega
      go_wp2_with fail
      go_ret
      exact ⟨rfl, HB.out⟩
      --}
theorem dfault_bad {p n k : Nat} {zs : List Int} (hl : zs.length = n) (hn : n = p) (hk : k < n) (h : zs.getD k 0 < -1000 ∨ 1000 < zs.getD k 0) : dfault p zs = 1 := by
  unfold dfault
  rw [if_neg (fun x => x (by omega)), if_pos (any_yes (p := dbad) (k := k) (by omega) (decide_eq_true h))]
theorem dfault_good {p n : Nat} {zs : List Int} (hl : zs.length = n) (hn : n = p) (h : ∀ k, k < n → -1000 ≤ zs.getD k 0 ∧ zs.getD k 0 ≤ 1000) : dfault p zs = 0 := by
  unfold dfault
  have : zs.any dbad = false := any_no fun k hk => decide_eq_false (by have := h k (by omega); omega)
  rw [if_neg (fun x => x (by omega)), if_neg (by rw [this]; decide)]
set_option maxHeartbeats 8000000 in
set_option maxRecDepth 1000000 in
theorem rdiv_any (p : Nat) (ea : Option Addr) (m ec : Nat) (da : Option Addr) (dn dc : Nat) (zs : List Int) (w : World) (hD : Ints.Is w da dn zs) (hp : p ≤ 10) :
    Calls Try.prog 12 #[.agg #[.int .i64 (p : Int), .slice ea m ec], .slice da dn dc] w fun e w' => e = .returned (.int .i64 (dfault p zs)) ∧ Below w.heap.size w w' := by
  have HD := Lib.hid hD
  have HL := Lib.hid hD.len
  have hle := hD.le
  unfold maxLen at hle
  clear hD
  go_enter Try.func12, Try.ntmps12
  go_upto_region 1 with fail
  have hR : Row (w.alloc (.cells #[.int .i64 (p : Int), .slice ea m ec] 24)) w.heap.size 24 [.int .i64 (p : Int), .slice ea m ec] := row_alloc w _ _
  have hB : Below w.heap.size w (w.alloc (.cells #[.int .i64 (p : Int), .slice ea m ec] 24)) := (Below.refl _ _).alloc (Nat.le_refl _) _
  have HG := Lib.hid hR
  have HB := Lib.hid hB
  clear hR hB
  generalize w.alloc (.cells #[.int .i64 (p : Int), .slice ea m ec] 24) = w1 at *
  have HDW := Lib.hid (HD.out.keep HB.out)
  have g0 := HG.out.cell 0
  dsimp only [List.getElem?_cons_zero] at g0
  by_cases hn : dn = p
  · subst hn
    have b1 : ((dn : Int) != (dn : Int)) = false := bne_self_eq_false _
    go_wp2_with fail
    clear g0 b1
    go_loopw [5] (fun z wr => ∃ k : Nat, k ≤ dn ∧ z = .int .i64 (k : Int) ∧ (∀ j, j < k → -1000 ≤ zs.getD j 0 ∧ zs.getD j 0 ≤ 1000) ∧ wr = w1) (fun z _ => dn - (intOf z).toNat)
    case atStart => exact ⟨0, Nat.zero_le _, rfl, fun j hj => absurd hj (Nat.not_lt_zero _), rfl⟩
    case round =>
      obtain ⟨k, hkn, rfl, hall, rfl⟩ := hrel
      have HALL := Lib.hid hall
      clear hall
      by_cases hk : k < dn
      · have hk2 : (k : Int) < (dn : Int) := by omega
        obtain ⟨bz, oz, rfl, _, hcz⟩ := HDW.out.cells k hk
        dsimp only at hcz
        have HBAD : Hid (zs.getD k 0 < -1000 ∨ 1000 < zs.getD k 0 → dfault dn zs = 1) := fun h => dfault_bad HL.out rfl hk h
        have HNX : Hid (-1000 ≤ zs.getD k 0 ∧ zs.getD k 0 ≤ 1000 → ∀ j, j < k + 1 → -1000 ≤ zs.getD j 0 ∧ zs.getD j 0 ≤ 1000) := fun h j hj => by
          by_cases e : j = k
          · rw [e]; exact h
          · exact HALL.out j (by omega)
        obtain ⟨z, hz⟩ : ∃ z, z = zs.getD k 0 := ⟨_, rfl⟩
        rw [← hz] at hcz HBAD HNX
        clear hz
        by_cases h1 : z < -1000
        · have HX := Lib.hid (HBAD.out (.inl h1))
          go_wp2_with fail
          go_ret
          exact ⟨by rw [HX.out]; rfl, HB.out⟩
        by_cases h2 : 1000 < z
        · have HX := Lib.hid (HBAD.out (.inr h2))
          go_wp2_with fail
          go_ret
          exact ⟨by rw [HX.out]; rfl, HB.out⟩
        · have HX := Lib.hid (HNX.out ⟨by omega, by omega⟩)
          go_wp2_with fail
          go_roundw
          case rel => exact ⟨k + 1, by omega, by go_num, HX.out, by trivial⟩
          case measure => simp [intOf]; omega
      · obtain rfl : k = dn := by omega
        have HX : Hid (dfault k zs = 0) := dfault_good HL.out rfl HALL.out
        go_wp2_with fail
        go_ret
        exact ⟨by rw [HX.out]; rfl, HB.out⟩
  · have b1 : ((dn : Int) != (p : Int)) = true := by rw [bne_iff_ne]; omega
    have HX : Hid (dfault p zs = 3) := by
      show _ = _
      unfold dfault
      rw [if_pos (fun h => hn (by rw [← HL.out]; exact h))]
    clear hn
    go_wp2_with fail
    go_ret
    exact ⟨by rw [HX.out]; rfl, HB.out⟩
set_option maxHeartbeats 4000000 in
theorem rsumZ_any (ca : Option Addr) (n cc : Nat) (zs : List Int) (w : World) (hC : Ints.Is w ca n zs) (hn : n ≤ 10) :
    Calls Try.prog 13 #[.slice ca n cc] w fun e w' => e = .returned (.int .i64 (wrap64 (sumZ (fun k => zs.getD k 0) n))) ∧ w' = w := by
  have HC := Lib.hid hC
  clear hC
  go_enter Try.func13, Try.ntmps13
  go_wp2_with fail
  go_loopw [3, 4] (fun z u wr => ∃ k : Nat, k ≤ n ∧ z = .int .i64 (wrap64 (sumZ (fun k => zs.getD k 0) k)) ∧ u = .int .i64 (k : Int) ∧ wr = w) (fun _ u _ => n - (intOf u).toNat)
  case atStart => exact ⟨0, Nat.zero_le _, (show Value.int .i64 0 = Value.int .i64 (wrap64 0) by rw [show wrap64 0 = 0 from by unfold wrap64; omega]), rfl, rfl⟩
  case round =>
    obtain ⟨k, hkn, rfl, rfl, rfl⟩ := hrel
    by_cases hk : k < n
    · have hk2 : (k : Int) < (n : Int) := by omega
      obtain ⟨bz, oz, rfl, _, hcz⟩ := HC.out.cells k hk
      dsimp only at hcz
      have HNX : Hid (wrap64 (sumZ (fun k => zs.getD k 0) (k + 1)) = wrap64 (wrap64 (sumZ (fun k => zs.getD k 0) k) + zs.getD k 0)) := by
        show _ = _
        rw [wrap_add]; rfl
      obtain ⟨s, hs⟩ : ∃ s, s = wrap64 (sumZ (fun k => zs.getD k 0) k) := ⟨_, rfl⟩
      rw [← hs] at HNX ⊢
      clear hs
      obtain ⟨x, hx⟩ : ∃ x, x = zs.getD k 0 := ⟨_, rfl⟩
      rw [← hx] at HNX hcz
      clear hx
      go_wp2_with fail
      go_roundw
      case rel => exact ⟨k + 1, by omega, by rw [HNX.out], by go_num, by trivial⟩
      case measure => simp [intOf]; omega
    · obtain rfl : k = n := by omega
      go_wp2_with fail
      go_ret
      exact ⟨rfl, rfl⟩
end Ch
end Go.Proofs.Ytjikildiblchpaa
