/- Several texts laid together: DfB DfO DfN ChW DfG ChH Dr1 Dr2 Dr3 Dr4 DgA DgB. -/
import Derived.Test.YtjikildiblchpaaDoorChC
import Derived.Test.YtjikildiblchpaaDoorChPl
import Derived.Test.YtjikildiblchpaaDoorRtR
import Derived.Test.YtjikildiblchpaaDoorChS
import Derived.Test.YtjikildiblchpaaDoorChR2
import Derived.Test.YtjikildiblchpaaDoorChB
import Derived.Test.YtjikildiblchpaaDoorChG
import Derived.Test.YtjikildiblchpaaDoorChR1
import Derived.Test.YtjikildiblchpaaDoorChR3
import Derived.Test.YtjikildiblchpaaDoorRfQ
import Derived.Test.YtjikildiblchpaaDoorRfG
import Derived.Deep.RegionWith
/- WALK of the document's answer: edenref6.Between, Divisor, Sum. -/
namespace Go.Proofs.YtjikildiblchpaaDoor
set_option linter.unusedSimpArgs false
set_option linter.unusedVariables false
open Go.RowKit Go.Lib
namespace Ch
open Tld Mem Rt

set_option maxHeartbeats 8000000 in
set_option maxRecDepth 1000000 in
theorem between_any (P : Int) (p : Nat) (ea : Option Addr) (m ec : Nat) (f : Nat → Nat → Int) (k o : Nat) (w : World) (hE : Mem.Rows w ea m 3 (fun i j => .int .i64 (f i j))) (hm : m ≤ 40) (hN : ∀ i, i < m → EdgeN p f i) :
    Calls Tryd.prog 64 #[.agg #[.int .i64 P, .slice ea m ec], .int .i64 (k : Int), .int .i64 (o : Int)] w fun e w' => e = .returned (.int .i64 (btw f k o m : Nat)) ∧ Below w.heap.size w w' := by
  have HER := Lib.hid hE
  have HEN := Lib.hid hN
  clear hE hN
  go_enter Tryd.func64, Tryd.ntmps64
  go_upto_region 1 with fail
  have hR : Row (w.alloc (.cells #[.int .i64 P, .slice ea m ec] 24)) w.heap.size 24 [.int .i64 P, .slice ea m ec] := row_alloc w _ _
  have hB : Below w.heap.size w (w.alloc (.cells #[.int .i64 P, .slice ea m ec] 24)) := (Below.refl _ _).alloc (Nat.le_refl _) _
  have HG := Lib.hid hR
  have HB := Lib.hid hB
  clear hR hB
  generalize w.alloc (.cells #[.int .i64 P, .slice ea m ec] 24) = w1 at *
  obtain ⟨bg, hbg⟩ : ∃ bg, bg = w.heap.size := ⟨_, rfl⟩
  rw [← hbg] at HG ⊢
  have hlg : w.heap.size ≤ bg := by omega
  clear hbg
  go_wp2_with fail
  go_loopw [7, 8] (fun z u wr => ∃ i : Nat, i ≤ m ∧ z = .int .i64 (btw f k o i : Nat) ∧ u = .int .i64 (i : Int) ∧ Row wr bg 24 [.int .i64 P, .slice ea m ec] ∧ Below w.heap.size w wr) (fun _ u _ => m - (intOf u).toNat)
  case atStart => exact ⟨0, Nat.zero_le _, rfl, rfl, HG.out, HB.out⟩
  case round =>
    clear HG HB
    obtain ⟨i, him, rfl, rfl, hg, hb⟩ := hrel
    have HG := Lib.hid hg
    have HB := Lib.hid hb
    have g1 := hg.cell 1
    dsimp only [List.getElem?_cons_succ, List.getElem?_cons_zero] at g1
    clear hg hb
    by_cases hlt : i < m
    · --{ROUND
      obtain ⟨b, off, rfl, hbl, hrest⟩ := HER.out i hlt
      clear hrest
      have l1 := edges_range (fun i hi => by
        obtain ⟨b', o', e, h1, h2⟩ := HER.out i hi
        exact ⟨b', o', e, Nat.lt_of_lt_of_le h1 HB.out.size, fun j hj => by rw [HB.out.cell h1]; exact h2 j hj⟩) hlt (w := wr) (b := b) (off := off)
      have hi2 : (i : Int) < (m : Int) := by omega
      have hN := HEN.out i hlt
      rw [hN.a, hN.b, hN.t] at l1
      have hd4 : btw f k o i ≤ 100 * i := btw_le fun j hj => HEN.out j (by omega)
      have HS := Lib.hid (btw_succ (f := f) (a := k) (b := o) (m := i))
      obtain ⟨d, hd⟩ : ∃ d, d = btw f k o i := ⟨_, rfl⟩
      rw [← hd] at HS hd4 ⊢
      have th := hN.th
      obtain ⟨a, ha⟩ : ∃ a, a = eA f i := ⟨_, rfl⟩
      obtain ⟨c, hc⟩ : ∃ c, c = eB f i := ⟨_, rfl⟩
      obtain ⟨t, ht⟩ : ∃ t, t = eT f i := ⟨_, rfl⟩
      rw [← ha, ← hc, ← ht] at l1
      rw [← ht] at HS
      rw [← ht] at th
      have HAE := Lib.hid ha
      have HCE := Lib.hid hc
      clear hN ha hc hd ht
      have hrow : Row (wr.alloc (.cells #[.int .i64 (a : Int), .int .i64 (c : Int), .int .i64 (t : Int)] 74)) wr.heap.size 74 [.int .i64 (a : Int), .int .i64 (c : Int), .int .i64 (t : Int)] := row_alloc wr _ _
      have hbn2 : Below wr.heap.size wr (wr.alloc (.cells #[.int .i64 (a : Int), .int .i64 (c : Int), .int .i64 (t : Int)] 74)) := (Below.refl _ _).alloc (Nat.le_refl _) _
      go_upto_region 6 with (refine wpList_load_mid rfl 74 _ rfl b (off + i * 3) rfl _ _ l1 Tryd.underlying74 rfl infoEdge ?_)
      have HG := Lib.hid (HG.out.keep hbn2 HG.out.lt)
      have HB := Lib.hid (HB.out.trans (hbn2.mono HB.out.size))
      have e0 := hrow.cell 0
      have e1 := hrow.cell 1
      have e2 := hrow.cell 2
      dsimp only [List.getElem?_cons_succ, List.getElem?_cons_zero] at e0 e1 e2
      clear hbn2 hrow l1
      generalize wr.alloc (.cells #[.int .i64 (a : Int), .int .i64 (c : Int), .int .i64 (t : Int)] 74) = w2 at *
      have hf1 : (-9223372036854775808 : Int) ≤ (d : Int) + (t : Int) := by omega
      have hf2 : (d : Int) + (t : Int) ≤ 9223372036854775807 := by omega
      have hab : Btw f i k o ↔ (a = k ∧ c = o) ∨ (a = o ∧ c = k) := by rw [HAE.out, HCE.out]; exact Iff.rfl
      have HYES : Hid ((a = k ∧ c = o) ∨ (a = o ∧ c = k) → btw f k o (i + 1) = d + t) := fun h => by rw [HS.out, if_pos (hab.2 h)]
      have HNO : Hid (¬ ((a = k ∧ c = o) ∨ (a = o ∧ c = k)) → btw f k o (i + 1) = d) := fun h => by rw [HS.out, if_neg (fun x => h (hab.1 x)), Nat.add_zero]
      clear hab
      have bb : ∀ x y : Nat, ((x : Int) == (y : Int)) = decide (x = y) := fun x y => by
        by_cases h : x = y
        · rw [h, decide_eq_true rfl]; exact beq_self_eq_true _
        · rw [decide_eq_false h, beq_eq_false_iff_ne]; omega
      have q1 := bb a k
      have q2 := bb c o
      have q3 := bb a o
      have q4 := bb c k
      clear bb
      by_cases h1 : a = k
      · by_cases h2 : c = o
        · have HS2 := Lib.hid (HYES.out (.inl ⟨h1, h2⟩))
          rw [decide_eq_true h1] at q1
          rw [decide_eq_true h2] at q2
          clear q3 q4 h1 h2 HYES HNO
          go_wp2_with fail
          go_roundw
          case rel => exact ⟨i + 1, by omega, by rw [HS2.out]; go_num, by go_num, HG.out, HB.out⟩
          case measure => simp [intOf]; omega
        · rw [decide_eq_true h1] at q1
          rw [decide_eq_false h2] at q2
          by_cases h3 : a = o
          · by_cases h4 : c = k
            · have HS2 := Lib.hid (HYES.out (.inr ⟨h3, h4⟩))
              rw [decide_eq_true h3] at q3
              rw [decide_eq_true h4] at q4
              clear h1 h2 h3 h4 HYES HNO
              go_wp2_with fail
              go_roundw
              case rel => exact ⟨i + 1, by omega, by rw [HS2.out]; go_num, by go_num, HG.out, HB.out⟩
              case measure => simp [intOf]; omega
            · have HS2 := Lib.hid (HNO.out fun h => h.elim (fun h => h2 h.2) (fun h => h4 h.2))
              rw [decide_eq_true h3] at q3
              rw [decide_eq_false h4] at q4
              clear h1 h2 h3 h4 HYES HNO
              go_wp2_with fail
              go_roundw
              case rel => exact ⟨i + 1, by omega, by rw [HS2.out], by go_num, HG.out, HB.out⟩
              case measure => simp [intOf]; omega
          · have HS2 := Lib.hid (HNO.out fun h => h.elim (fun h => h2 h.2) (fun h => h3 h.1))
            rw [decide_eq_false h3] at q3
            clear h1 h2 h3 HYES HNO
            go_wp2_with fail
            go_roundw
            case rel => exact ⟨i + 1, by omega, by rw [HS2.out], by go_num, HG.out, HB.out⟩
            case measure => simp [intOf]; omega
      · rw [decide_eq_false h1] at q1
        by_cases h3 : a = o
        · rw [decide_eq_true h3] at q3
          by_cases h4 : c = k
          · have HS2 := Lib.hid (HYES.out (.inr ⟨h3, h4⟩))
            rw [decide_eq_true h4] at q4
            clear h1 h3 h4 HYES HNO
            go_wp2_with fail
            go_roundw
            case rel => exact ⟨i + 1, by omega, by rw [HS2.out]; go_num, by go_num, HG.out, HB.out⟩
            case measure => simp [intOf]; omega
          · have HS2 := Lib.hid (HNO.out fun h => h.elim (fun h => h1 h.1) (fun h => h4 h.2))
            rw [decide_eq_false h4] at q4
            clear h1 h3 h4 HYES HNO
            go_wp2_with fail
            go_roundw
            case rel => exact ⟨i + 1, by omega, by rw [HS2.out], by go_num, HG.out, HB.out⟩
            case measure => simp [intOf]; omega
        · have HS2 := Lib.hid (HNO.out fun h => h.elim (fun h => h1 h.1) (fun h => h3 h.1))
          rw [decide_eq_false h3] at q3
          clear h1 h3 HYES HNO
          go_wp2_with fail
          go_roundw
          case rel => exact ⟨i + 1, by omega, by rw [HS2.out], by go_num, HG.out, HB.out⟩
          case measure => simp [intOf]; omega
      --}
    · --{END
      obtain rfl : i = m := by omega
      go_wp2_with fail
      go_ret
      exact ⟨rfl, HB.out⟩
      --}
theorem dfault_bad {p n k : Nat} {zs : List Int} (hl : zs.length = n) (hn : n = p) (hk : k < n) (h : zs.getD k 0 < -1000 ∨ 1000 < zs.getD k 0) : dfault p zs = 1 := by
  unfold dfault
  rw [if_neg (fun x => x (by omega)), if_pos (any_yes (p := dbad) (k := k) (by omega) (decide_eq_true h))]
theorem dfault_good {p n : Nat} {zs : List Int} (hl : zs.length = n) (hn : n = p) (h : ∀ k, k < n → -1000 ≤ zs.getD k 0 ∧ zs.getD k 0 ≤ 1000) : dfault p zs = 0 := by
  unfold dfault
  have : zs.any dbad = false := any_no fun k hk => decide_eq_false (by have := h k (by omega); omega)
  rw [if_neg (fun x => x (by omega)), if_neg (by rw [this]; decide)]
set_option maxHeartbeats 8000000 in
set_option maxRecDepth 1000000 in
theorem rdiv_any (p : Nat) (ea : Option Addr) (m ec : Nat) (da : Option Addr) (dn dc : Nat) (zs : List Int) (w : World) (hD : Ints.Is w da dn zs) (hp : p ≤ 10) :
    Calls Tryd.prog 18 #[.agg #[.int .i64 (p : Int), .slice ea m ec], .slice da dn dc] w fun e w' => e = .returned (.int .i64 (dfault p zs)) ∧ Below w.heap.size w w' := by
  have HD := Lib.hid hD
  have HL := Lib.hid hD.len
  have hle := hD.le
  unfold maxLen at hle
  clear hD
  go_enter Tryd.func18, Tryd.ntmps18
  go_upto_region 1 with fail
  have hR : Row (w.alloc (.cells #[.int .i64 (p : Int), .slice ea m ec] 24)) w.heap.size 24 [.int .i64 (p : Int), .slice ea m ec] := row_alloc w _ _
  have hB : Below w.heap.size w (w.alloc (.cells #[.int .i64 (p : Int), .slice ea m ec] 24)) := (Below.refl _ _).alloc (Nat.le_refl _) _
  have HG := Lib.hid hR
  have HB := Lib.hid hB
  clear hR hB
  generalize w.alloc (.cells #[.int .i64 (p : Int), .slice ea m ec] 24) = w1 at *
  have HDW := Lib.hid (HD.out.keep HB.out)
  have g0 := HG.out.cell 0
  dsimp only [List.getElem?_cons_zero] at g0
  by_cases hn : dn = p
  · subst hn
    have b1 : ((dn : Int) != (dn : Int)) = false := bne_self_eq_false _
    go_wp2_with fail
    clear g0 b1
    go_loopw [5] (fun z wr => ∃ k : Nat, k ≤ dn ∧ z = .int .i64 (k : Int) ∧ (∀ j, j < k → -1000 ≤ zs.getD j 0 ∧ zs.getD j 0 ≤ 1000) ∧ wr = w1) (fun z _ => dn - (intOf z).toNat)
    case atStart => exact ⟨0, Nat.zero_le _, rfl, fun j hj => absurd hj (Nat.not_lt_zero _), rfl⟩
    case round =>
      obtain ⟨k, hkn, rfl, hall, rfl⟩ := hrel
      have HALL := Lib.hid hall
      clear hall
      by_cases hk : k < dn
      · have hk2 : (k : Int) < (dn : Int) := by omega
        obtain ⟨bz, oz, rfl, _, hcz⟩ := HDW.out.cells k hk
        dsimp only at hcz
        have HBAD : Hid (zs.getD k 0 < -1000 ∨ 1000 < zs.getD k 0 → dfault dn zs = 1) := fun h => dfault_bad HL.out rfl hk h
        have HNX : Hid (-1000 ≤ zs.getD k 0 ∧ zs.getD k 0 ≤ 1000 → ∀ j, j < k + 1 → -1000 ≤ zs.getD j 0 ∧ zs.getD j 0 ≤ 1000) := fun h j hj => by
          by_cases e : j = k
          · rw [e]; exact h
          · exact HALL.out j (by omega)
        obtain ⟨z, hz⟩ : ∃ z, z = zs.getD k 0 := ⟨_, rfl⟩
        rw [← hz] at hcz HBAD HNX
        clear hz
        by_cases h1 : z < -1000
        · have HX := Lib.hid (HBAD.out (.inl h1))
          go_wp2_with fail
          go_ret
          exact ⟨by rw [HX.out]; rfl, HB.out⟩
        by_cases h2 : 1000 < z
        · have HX := Lib.hid (HBAD.out (.inr h2))
          go_wp2_with fail
          go_ret
          exact ⟨by rw [HX.out]; rfl, HB.out⟩
        · have HX := Lib.hid (HNX.out ⟨by omega, by omega⟩)
          go_wp2_with fail
          go_roundw
          case rel => exact ⟨k + 1, by omega, by go_num, HX.out, by trivial⟩
          case measure => simp [intOf]; omega
      · obtain rfl : k = dn := by omega
        have HX : Hid (dfault k zs = 0) := dfault_good HL.out rfl HALL.out
        go_wp2_with fail
        go_ret
        exact ⟨by rw [HX.out]; rfl, HB.out⟩
  · have b1 : ((dn : Int) != (p : Int)) = true := by rw [bne_iff_ne]; omega
    have HX : Hid (dfault p zs = 3) := by
      show _ = _
      unfold dfault
      rw [if_pos (fun h => hn (by rw [← HL.out]; exact h))]
    clear hn
    go_wp2_with fail
    go_ret
    exact ⟨by rw [HX.out]; rfl, HB.out⟩
set_option maxHeartbeats 4000000 in
theorem rsumZ_any (ca : Option Addr) (n cc : Nat) (zs : List Int) (w : World) (hC : Ints.Is w ca n zs) (hn : n ≤ 10) :
    Calls Tryd.prog 11 #[.slice ca n cc] w fun e w' => e = .returned (.int .i64 (wrap64 (sumZ (fun k => zs.getD k 0) n))) ∧ w' = w := by
  have HC := Lib.hid hC
  clear hC
  go_enter Tryd.func11, Tryd.ntmps11
  go_wp2_with fail
  go_loopw [3, 4] (fun z u wr => ∃ k : Nat, k ≤ n ∧ z = .int .i64 (wrap64 (sumZ (fun k => zs.getD k 0) k)) ∧ u = .int .i64 (k : Int) ∧ wr = w) (fun _ u _ => n - (intOf u).toNat)
  case atStart => exact ⟨0, Nat.zero_le _, (show Value.int .i64 0 = Value.int .i64 (wrap64 0) by rw [show wrap64 0 = 0 from by unfold wrap64; omega]), rfl, rfl⟩
  case round =>
    obtain ⟨k, hkn, rfl, rfl, rfl⟩ := hrel
    by_cases hk : k < n
    · have hk2 : (k : Int) < (n : Int) := by omega
      obtain ⟨bz, oz, rfl, _, hcz⟩ := HC.out.cells k hk
      dsimp only at hcz
      have HNX : Hid (wrap64 (sumZ (fun k => zs.getD k 0) (k + 1)) = wrap64 (wrap64 (sumZ (fun k => zs.getD k 0) k) + zs.getD k 0)) := by
        show _ = _
        rw [wrap_add]; rfl
      obtain ⟨s, hs⟩ : ∃ s, s = wrap64 (sumZ (fun k => zs.getD k 0) k) := ⟨_, rfl⟩
      rw [← hs] at HNX ⊢
      clear hs
      obtain ⟨x, hx⟩ : ∃ x, x = zs.getD k 0 := ⟨_, rfl⟩
      rw [← hx] at HNX hcz
      clear hx
      go_wp2_with fail
      go_roundw
      case rel => exact ⟨k + 1, by omega, by rw [HNX.out], by go_num, by trivial⟩
      case measure => simp [intOf]; omega
    · obtain rfl : k = n := by omega
      go_wp2_with fail
      go_ret
      exact ⟨rfl, rfl⟩
end Ch
end Go.Proofs.YtjikildiblchpaaDoor

/- WALK of the document's answer: edenref6.outer, Burns. -/
namespace Go.Proofs.YtjikildiblchpaaDoor
set_option linter.unusedSimpArgs false
set_option linter.unusedVariables false
open Go.RowKit Go.Lib
namespace Ch
open Tld Mem Rt

/-- What outer counts. -/
def outN (p : Nat) (f : Nat → Nat → Int) (m k : Nat) (S : Nat → Bool) (q : Bool) (n : Nat) : Nat := sumN (fun o => if o ≠ k ∧ S o = q then btw f k o m else 0) n
theorem outN_out {p m k : Nat} {f : Nat → Nat → Int} {S : Nat → Bool} (h0 : btw f k k m = 0) : outN p f m k S false p = outS p (fun a b => btw f a b m) S k := by
  unfold outN outS
  refine sumN_congr fun o _ => ?_
  by_cases e : o = k
  · subst e
    rw [if_neg (fun h => h.1 rfl)]
    split
    · rfl
    · exact h0.symm
  · by_cases hs : S o = true
    · rw [if_neg (fun h => by rw [hs] at h; cases h.2), if_pos hs]
    · rw [if_pos (show o ≠ k ∧ S o = false from ⟨e, by cases h : S o; rfl; exact absurd h hs⟩), if_neg hs]
theorem outN_in {p m k : Nat} {f : Nat → Nat → Int} {S : Nat → Bool} (h0 : btw f k k m = 0) : outN p f m k S true p = inS p (fun a b => btw f a b m) S k := by
  unfold outN inS
  refine sumN_congr fun o _ => ?_
  by_cases e : o = k
  · subst e
    rw [if_neg (fun h => h.1 rfl)]
    split
    · exact h0.symm
    · rfl
  · by_cases hs : S o = true
    · rw [if_pos (show o ≠ k ∧ S o = true from ⟨e, hs⟩), if_pos hs]
    · rw [if_neg (fun h => hs h.2), if_neg hs]
theorem outN_le {p m k : Nat} {f : Nat → Nat → Int} {S : Nat → Bool} {q : Bool} (hE : ∀ i, i < m → EdgeN p f i) (hm : m ≤ 40) {n : Nat} (hn : n ≤ p) : outN p f m k S q n ≤ 4000 := by
  have h1 : outN p f m k S q n ≤ sumN (fun o => btw f k o m) n := sumN_le fun o _ => by split <;> omega
  have h2 := sumN_mono (F := fun o => btw f k o m) hn
  have h3 := btw_sum (k := k) hE
  have h4 := deg_le (a := k) hE
  omega

set_option maxHeartbeats 8000000 in
set_option maxRecDepth 1000000 in
theorem outer_any (p : Nat) (ea : Option Addr) (m ec : Nat) (f : Nat → Nat → Int) (k bs cs : Nat) (S : Nat → Bool) (q : Bool) (w : World) (hE : Mem.Rows w ea m 3 (fun i j => .int .i64 (f i j))) (hm : m ≤ 40) (hN : ∀ i, i < m → EdgeN p f i) (hp : p ≤ 10) (hS : VecB w bs p S) :
    Calls Tryd.prog 46 #[.agg #[.int .i64 (p : Int), .slice ea m ec], .int .i64 (k : Int), .slice (some ⟨bs, 0, none⟩) p cs, .bool q] w fun e w' => e = .returned (.int .i64 (outN p f m k S q p : Nat)) ∧ Below w.heap.size w w' := by
  have HE := Lib.hid hE
  have HEN := Lib.hid hN
  have HS := Lib.hid hS
  have hsl := hS.lt
  clear hE hN hS
  go_enter Tryd.func46, Tryd.ntmps46
  go_upto_region 1 with fail
  have hR : Row (w.alloc (.cells #[.int .i64 (p : Int), .slice ea m ec] 24)) w.heap.size 24 [.int .i64 (p : Int), .slice ea m ec] := row_alloc w _ _
  have hB : Below w.heap.size w (w.alloc (.cells #[.int .i64 (p : Int), .slice ea m ec] 24)) := (Below.refl _ _).alloc (Nat.le_refl _) _
  have HG := Lib.hid hR
  have HB := Lib.hid hB
  clear hR hB
  generalize w.alloc (.cells #[.int .i64 (p : Int), .slice ea m ec] 24) = w1 at *
  go_wp2_with fail
  go_loopw [9, 10] (fun y z wr => ∃ o : Nat, o ≤ p ∧ y = .int .i64 (outN p f m k S q o : Nat) ∧ z = .int .i64 (o : Int) ∧ Row wr w.heap.size 24 [.int .i64 (p : Int), .slice ea m ec] ∧ Below w.heap.size w wr) (fun _ z _ => p - (intOf z).toNat)
  case atStart => exact ⟨0, Nat.zero_le _, rfl, rfl, HG.out, HB.out⟩
  case round =>
    clear HG HB
    obtain ⟨o, hop, rfl, rfl, hg, hb⟩ := hrel
    have HG := Lib.hid hg
    have HB := Lib.hid hb
    have g0 := hg.cell 0
    dsimp only [List.getElem?_cons_zero] at g0
    clear hg hb
    have hn4 := outN_le (k := k) (S := S) (q := q) HEN.out hm hop
    by_cases ho : o < p
    · have ho2 : (o : Int) < (p : Int) := by omega
      have s1 := (HS.out.keep HB.out hsl).cell ho
      have HNX : Hid (outN p f m k S q (o + 1) = outN p f m k S q o + if o ≠ k ∧ S o = q then btw f k o m else 0) := rfl
      have hb4 := btw_le (a := k) (b := o) HEN.out
      obtain ⟨n, hn⟩ : ∃ n, n = outN p f m k S q o := ⟨_, rfl⟩
      rw [← hn] at HNX hn4 ⊢
      clear hn
      obtain ⟨so, hso⟩ : ∃ b, b = S o := ⟨_, rfl⟩
      rw [← hso] at s1 HNX
      clear hso
      have HB4 : Hid (btw f k o m ≤ 4000) := Nat.le_trans hb4 (by omega)
      clear hb4
      by_cases hok : o = k
      · have b1 : ((o : Int) != (k : Int)) = false := by rw [hok]; exact bne_self_eq_false _
        have HN2 : Hid (outN p f m k S q (o + 1) = n) := by
          show _ = _
          rw [HNX.out, if_neg (fun h => h.1 hok), Nat.add_zero]
        clear hok
        go_wp2_with fail
        go_roundw
        case rel => exact ⟨o + 1, by omega, by rw [HN2.out], by go_num, HG.out, HB.out⟩
        case measure => simp [intOf]; omega
      have b1 : ((o : Int) != (k : Int)) = true := by rw [bne_iff_ne]; omega
      by_cases hsq : so = q
      · subst hsq
        have HN2 : Hid (outN p f m k S so (o + 1) = n + btw f k o m) := by
          show _ = _
          rw [HNX.out, if_pos ⟨hok, rfl⟩]
        have b2 : (so == so) = true := beq_self_eq_true _
        have l1 := row_range HG.out
        clear hok HNX
        go_wp2_with (refine wpList_load_mid rfl 24 _ rfl w.heap.size 0 rfl _ _ l1 Tryd.underlying24 rfl infoGraph ?_)
        clear l1
        refine (between_any (p : Int) p ea m ec f k o wr (rows_keep HE.out HB.out) hm HEN.out).mono ?_
        rintro e1 w2 ⟨rfl, hb2⟩
        have HG := Lib.hid (HG.out.keep hb2 HG.out.lt)
        have HB := Lib.hid (HB.out.trans (hb2.mono HB.out.size))
        clear hb2 s1 g0
        have hx4 := HB4.out
        obtain ⟨x, hx⟩ : ∃ x, x = btw f k o m := ⟨_, rfl⟩
        rw [← hx] at HN2 hx4 ⊢
        clear hx HB4
        have hf1 : (n : Int) + (x : Int) ≤ 9223372036854775807 := by omega
        have hf2 : (-9223372036854775808 : Int) ≤ (n : Int) + (x : Int) := by omega
        go_wp2_with fail
        go_roundw
        case rel => exact ⟨o + 1, by omega, by rw [HN2.out, Int.natCast_add], by go_num, HG.out, HB.out⟩
        case measure => simp [intOf]; omega
      · have HN2 : Hid (outN p f m k S q (o + 1) = n) := by
          show _ = _
          rw [HNX.out, if_neg (fun h => hsq h.2), Nat.add_zero]
        have b2 : (so == q) = false := by rw [beq_eq_false_iff_ne]; exact hsq
        clear hok hsq
        go_wp2_with fail
        go_roundw
        case rel => exact ⟨o + 1, by omega, by rw [HN2.out], by go_num, HG.out, HB.out⟩
        case measure => simp [intOf]; omega
    · obtain rfl : o = p := by omega
      go_wp2_with fail
      go_ret
      exact ⟨rfl, HB.out⟩
end Ch
end Go.Proofs.YtjikildiblchpaaDoor

/- WALK of the document's answer: edenref6.Burns. -/
namespace Go.Proofs.YtjikildiblchpaaDoor
set_option linter.unusedSimpArgs false
set_option linter.unusedVariables false
open Go.RowKit Go.Lib
namespace Ch
open Tld Mem Rt

theorem not_upd {F : Nat → Bool} {k : Nat} : (fun j => !(updB F k false j)) = setB (fun j => !F j) k true := funext fun j => by
  unfold updB setB
  by_cases e : j = k
  · rw [if_pos e, if_pos e]; rfl
  · rw [if_neg e, if_neg e]
theorem out_not {P : Nat} {w : Nat → Nat → Nat} {F : Nat → Bool} {k : Nat} : outS P w F k = inS P w (fun j => !F j) k := by
  rw [← inS_not]
  congr 1
  exact funext fun j => by simp

set_option maxHeartbeats 8000000 in
set_option maxRecDepth 1000000 in
theorem burns_any (p : Nat) (ea : Option Addr) (m ec : Nat) (f : Nat → Nat → Int) (da : Option Addr) (dc : Nat) (zs : List Int) (a : Nat) (w : World) (hE : Mem.Rows w ea m 3 (fun i j => .int .i64 (f i j))) (hok : GOk p m f) (hD : Ints.Is w da p zs) (ha : a < p) :
    Calls Tryd.prog 47 #[.agg #[.int .i64 (p : Int), .slice ea m ec], .slice da p dc, .int .i64 (a : Int)] w fun e w' => ∃ (b : Nat) (F : Nat → Bool), e = .returned (.slice (some ⟨b, 0, none⟩) p p) ∧ w.heap.size ≤ b ∧ VecB w' b p F ∧ Burn p (fun a b => btw f a b m) (fun k => zs.getD k 0) a (fun j => !F j) ∧ (∀ k, k < p → F k = true → (outS p (fun a b => btw f a b m) F k : Int) ≤ zs.getD k 0) ∧ Below w.heap.size w w' := by
  have hp10 := hok.p10
  have HE := Lib.hid hE
  have HOK := Lib.hid hok
  have HD := Lib.hid hD
  have hmk := mk_bools p hp10
  clear hE hok hD
  go_enter Tryd.func47, Tryd.ntmps47
  go_upto_region 1 with fail
  have hR : Row (w.alloc (.cells #[.int .i64 (p : Int), .slice ea m ec] 24)) w.heap.size 24 [.int .i64 (p : Int), .slice ea m ec] := row_alloc w _ _
  have hB : Below w.heap.size w (w.alloc (.cells #[.int .i64 (p : Int), .slice ea m ec] 24)) := (Below.refl _ _).alloc (Nat.le_refl _) _
  have HG := Lib.hid hR
  have HB := Lib.hid hB
  clear hR hB
  generalize w.alloc (.cells #[.int .i64 (p : Int), .slice ea m ec] 24) = w1 at *
  have g0 := HG.out.cell 0
  dsimp only [List.getElem?_cons_zero] at g0
  go_upto_region 2 with fail
  have HS0 := Lib.hid (vecB_made w1 p)
  have hal : Below w1.heap.size w1 (w1.alloc (.cells (Array.replicate p (Value.bool false)) 4)) := (Below.refl _ _).alloc (Nat.le_refl _) _
  have HG1 := Lib.hid (HG.out.keep hal HG.out.lt)
  have HB1 := Lib.hid (HB.out.trans (hal.mono HB.out.size))
  have hbw : w.heap.size ≤ w1.heap.size := HB.out.size
  obtain ⟨bs, hbse⟩ : ∃ b, b = w1.heap.size := ⟨_, rfl⟩
  rw [← hbse] at HS0 hbw
  rw [← hbse]
  clear hal hmk hbse HG HB g0
  generalize w1.alloc (.cells (Array.replicate p (Value.bool false)) 4) = w2 at *
  go_wp2_with fail
  go_loopw [8] (fun z wr => ∃ k : Nat, k ≤ p ∧ z = .int .i64 (k : Int) ∧ VecB wr bs p (fun j => if j < k then decide (j ≠ a) else false) ∧ Row wr w.heap.size 24 [.int .i64 (p : Int), .slice ea m ec] ∧ Below w.heap.size w wr) (fun z _ => p - (intOf z).toNat)
  case atStart => exact ⟨0, Nat.zero_le _, rfl, HS0.out.congr fun j hj => by rw [if_neg (Nat.not_lt_zero _)], HG1.out, HB1.out⟩
  case round =>
    clear HS0 HG1 HB1
    obtain ⟨k, hkp, rfl, hs, hg, hb⟩ := hrel
    have HS := Lib.hid hs
    have HG := Lib.hid hg
    have HB := Lib.hid hb
    have g0 := hg.cell 0
    dsimp only [List.getElem?_cons_zero] at g0
    clear hs hg hb
    have hne : w.heap.size ≠ bs := by
      obtain ⟨c1, h1, _⟩ := HS.out.row
      exact row_ne HG.out h1 (by decide)
    by_cases hk : k < p
    · have hk2 : (k : Int) < (p : Int) := by omega
      have s1 := HS.out.cell hk
      have s2 := HS.out.frozen k
      have b1 : ((k : Int) != (a : Int)) = decide (k ≠ a) := by
        by_cases h : k = a
        · rw [h, decide_eq_false (fun x => x rfl)]; exact bne_self_eq_false _
        · rw [decide_eq_true h, bne_iff_ne]; omega
      have o1 := only_setCell wr bs k (.bool (decide (k ≠ a)))
      have HS2 := Lib.hid ((HS.out.set hk (decide (k ≠ a))).congr (G := fun j => if j < k + 1 then decide (j ≠ a) else false) fun j hj => by
        by_cases e : j = k
        · rw [e, updB_at, if_pos (by omega)]
        · rw [updB_no e]
          by_cases e2 : j < k
          · rw [if_pos e2, if_pos (by omega)]
          · rw [if_neg e2, if_neg (by omega)])
      have HG2 := Lib.hid (HG.out.other o1 hne)
      have HB2 := Lib.hid (HB.out.trans (o1.below hbw))
      clear o1 hne
      obtain ⟨q, hq⟩ : ∃ q, q = decide (k ≠ a) := ⟨_, rfl⟩
      rw [← hq] at b1 HS2 HG2 HB2
      clear hq
      go_wp2_with fail
      go_roundw
      case rel => exact ⟨k + 1, by omega, by go_num, HS2.out, HG2.out, HB2.out⟩
      case measure => simp [intOf]; omega
    · obtain rfl : k = p := by omega
      have HS := Lib.hid (HS.out.congr (G := fun j => decide (j ≠ a)) fun j hj => by rw [if_pos hj])
      have HBN : Hid (Burn k (fun a b => btw f a b m) (fun k => zs.getD k 0) a (fun j => !decide (j ≠ a))) := by
        have h := Burn.start (P := k) (w := fun a b => btw f a b m) (D := fun k => zs.getD k 0) (a := a)
        have e : (fun j => !decide (j ≠ a)) = fun j => decide (j = a) := funext fun j => by
          by_cases e : j = a
          · rw [decide_eq_false (fun x => x e), decide_eq_true e]; rfl
          · rw [decide_eq_true e, decide_eq_false e]; rfl
        rw [e]; exact h
      obtain ⟨p, rfl⟩ : ∃ q, q = k := ⟨_, rfl⟩
      go_wp2_with fail
      go_loopg [9] (2 * (p - cntB p (fun j => !decide (j ≠ a))) + 1) (fun g z wr => ∃ (q : Bool) (F : Nat → Bool), z = .bool q ∧ Burn p (fun a b => btw f a b m) (fun k => zs.getD k 0) a (fun j => !F j) ∧ VecB wr bs p F ∧ Row wr w.heap.size 24 [.int .i64 (p : Int), .slice ea m ec] ∧ Below w.heap.size w wr ∧ (q = false → ∀ k, k < p → F k = true → (outS p (fun a b => btw f a b m) F k : Int) ≤ zs.getD k 0) ∧ g = 2 * (p - cntB p (fun j => !F j)) + (if q = true then 1 else 0))
      case atStart => exact ⟨true, _, rfl, HBN.out, HS.out, HG.out, HB.out, fun h => (by cases h), rfl⟩
      case round =>
        clear HS HBN HG HB g0 hne
        obtain ⟨q, F, rfl, hbn, hs, hg, hb, hz, hgk⟩ := hrel
        have HBN := Lib.hid hbn
        have HS := Lib.hid hs
        have HG := Lib.hid hg
        have HB := Lib.hid hb
        have HZ := Lib.hid hz
        have HGK := Lib.hid hgk
        clear hbn hs hg hb hz hgk
        cases q
        case false =>
          go_wp2_with fail
          go_ret
          exact ⟨bs, rfl, hbw, F, HS.out, HBN.out, HZ.out (by trivial), HB.out⟩
        case true =>
          go_wp2_with fail
          go_loopw [9, 10] (fun y z wr => ∃ (q : Bool) (k : Nat) (c : Nat → Bool), k ≤ p ∧ z = .int .i64 (k : Int) ∧ y = .bool q ∧ Burn p (fun a b => btw f a b m) (fun k => zs.getD k 0) a (fun j => !c j) ∧ VecB wr bs p c ∧ Row wr w.heap.size 24 [.int .i64 (p : Int), .slice ea m ec] ∧ Below w.heap.size w wr ∧ (q = false → c = F ∧ ∀ j, j < k → c j = true → (outS p (fun a b => btw f a b m) c j : Int) ≤ zs.getD j 0) ∧ (q = true → cntB p (fun j => !F j) + 1 ≤ cntB p (fun j => !c j))) (fun _ z _ => p - (intOf z).toNat)
          case atStart => exact ⟨false, 0, F, Nat.zero_le _, rfl, rfl, HBN.out, HS.out, HG.out, HB.out, fun _ => ⟨rfl, fun j hj => absurd hj (Nat.not_lt_zero _)⟩, fun h => (by cases h)⟩
          case round =>
            clear HS HG HB HBN HZ
            obtain ⟨q, k, c, hkp, rfl, rfl, hbn, hs, hg, hb, hz, hm⟩ := hrel
            have HBN := Lib.hid hbn
            have HS := Lib.hid hs
            have HG := Lib.hid hg
            have HB := Lib.hid hb
            have HZ := Lib.hid hz
            have HM := Lib.hid hm
            have g0 := hg.cell 0
            dsimp only [List.getElem?_cons_zero] at g0
            clear hbn hs hg hb hz hm
            by_cases hk : k < p
            · have hk2 : (k : Int) < (p : Int) := by omega
              have s1 := HS.out.cell hk
              have HCT : Hid (c k = true → cntB p (fun j => !(updB c k false j)) = cntB p (fun j => !c j) + 1) := fun h => by
                show _ = _
                rw [not_upd]
                exact cntB_add hk (show (!c k) = false by rw [h]; rfl)
              have HNX : Hid ((c k = true → (outS p (fun a b => btw f a b m) c k : Int) ≤ zs.getD k 0) → q = false → c = F ∧ ∀ j, j < k + 1 → c j = true → (outS p (fun a b => btw f a b m) c j : Int) ≤ zs.getD j 0) := fun h hq => ⟨(HZ.out hq).1, fun j hj hc => by
                by_cases e : j = k
                · rw [e] at hc ⊢; exact h hc
                · exact (HZ.out hq).2 j (by omega) hc⟩
              obtain ⟨ck, hck⟩ : ∃ z, z = c k := ⟨_, rfl⟩
              rw [← hck] at s1 HCT HNX
              clear hck
              cases ck
              case false =>
                have HN2 := Lib.hid (HNX.out fun h => (by cases h))
                go_wp2_with fail
                go_roundw
                case rel => exact ⟨q, k + 1, c, by omega, by go_num, rfl, HBN.out, HS.out, HG.out, HB.out, HN2.out, HM.out⟩
                case measure => simp [intOf]; omega
              case true =>
                have l1 := row_range HG.out
                go_wp2_with (refine wpList_load_mid rfl 24 _ rfl w.heap.size 0 rfl _ _ l1 Tryd.underlying24 rfl infoGraph ?_)
                clear l1
                refine (outer_any p ea m ec f k bs p c false wr (rows_keep HE.out HB.out) HOK.out.m40 HOK.out.edge hp10 HS.out).mono ?_
                rintro e1 w4 ⟨rfl, hb4⟩
                have HS4 := Lib.hid (HS.out.keep hb4 HS.out.lt)
                have HG4 := Lib.hid (HG.out.keep hb4 HG.out.lt)
                have HB4 := Lib.hid (HB.out.trans (hb4.mono HB.out.size))
                clear hb4 HS HG HB s1 g0
                rw [outN_out ((gr_of HOK.out).own k)]
                have g0 := HG4.out.cell 0
                dsimp only [List.getElem?_cons_zero] at g0
                obtain ⟨bz, oz, rfl, _, hcz⟩ := (HD.out.keep HB4.out).cells k hk
                dsimp only at hcz
                have HST : Hid (zs.getD k 0 < (outS p (fun a b => btw f a b m) c k : Int) → Burn p (fun a b => btw f a b m) (fun k => zs.getD k 0) a (fun j => !(updB c k false j))) := fun h => by
                  show Burn _ _ _ _ _
                  rw [not_upd]
                  exact HBN.out.step hk (by rw [← out_not]; exact h)
                obtain ⟨n, hn⟩ : ∃ n, n = outS p (fun a b => btw f a b m) c k := ⟨_, rfl⟩
                rw [← hn] at HNX HST ⊢
                clear hn
                obtain ⟨dk, hdk⟩ : ∃ z, z = zs.getD k 0 := ⟨_, rfl⟩
                rw [← hdk] at hcz HST HNX
                clear hdk
                by_cases hlt : dk < (n : Int)
                · have HB2 := Lib.hid (HST.out hlt)
                  have HC2 := Lib.hid (HCT.out (by trivial))
                  have z1 := HS4.out.frozen k
                  have s1 := HS4.out.cell hk
                  have hne : w.heap.size ≠ bs := by
                    obtain ⟨c1, h1, _⟩ := HS4.out.row
                    exact row_ne HG4.out h1 (by decide)
                  have o1 := only_setCell w4 bs k (.bool false)
                  have HS2 := Lib.hid (HS4.out.set hk false)
                  have HG2 := Lib.hid (HG4.out.other o1 hne)
                  have HBB := Lib.hid (HB4.out.trans (o1.below hbw))
                  have HM2 : Hid (cntB p (fun j => !F j) + 1 ≤ cntB p (fun j => !(updB c k false j))) := by
                    show _ ≤ _
                    rw [HC2.out]
                    cases q
                    · rw [(HZ.out (by trivial)).1]; omega
                    · have := HM.out (by trivial); omega
                  clear o1 hne
                  go_wp2_with fail
                  go_roundw
                  case rel => exact ⟨true, k + 1, updB c k false, by omega, by go_num, rfl, HB2.out, HS2.out, HG2.out, HBB.out, fun h => (by cases h), fun _ => HM2.out⟩
                  case measure => simp [intOf]; omega
                · have HN2 := Lib.hid (HNX.out fun _ => by omega)
                  go_wp2_with fail
                  go_roundw
                  case rel => exact ⟨q, k + 1, c, by omega, by go_num, rfl, HBN.out, HS4.out, HG4.out, HB4.out, HN2.out, HM.out⟩
                  case measure => simp [intOf]; omega
            · obtain rfl : k = p := by omega
              go_wp2_with fail
              go_roundg (2 * (k - cntB k (fun j => !c j)) + (if q = true then 1 else 0))
              case measure =>
                have h1 := HGK.out
                have hc1 := cntB_le (P := k) (b := fun j => !c j)
                cases q
                · have h2 := (HZ.out rfl).1
                  rw [h2, if_neg (by decide)]; rw [if_pos trivial] at h1; omega
                · have h2 := HM.out rfl
                  rw [if_pos rfl]; rw [if_pos trivial] at h1; omega
              case rel => exact ⟨q, c, rfl, HBN.out, HS.out, HG.out, HB.out, fun h => (HZ.out h).2, rfl⟩
end Ch
end Go.Proofs.YtjikildiblchpaaDoor

/- THE FACT of ChipsFires: two places, two edges: what is reduced of three chips; laws on lists. -/
namespace Go.Proofs.YtjikildiblchpaaDoor
set_option linter.unusedSimpArgs false
set_option linter.unusedVariables false
open Go.RowKit Go.Lib
namespace Ch
open Tld Mem Rt

/-- The graph of two places and one edge, twice. -/
def t2 (_ j : Nat) : Int := if j = 0 then 0 else if j = 1 then 1 else 2
theorem t2_edge : EdgeOk 2 t2 0 := by unfold EdgeOk t2; decide
theorem t2_conn : ConnG 2 t2 1 := fun k hk => by
  have h0 : Rt.Reach t2 1 0 := reach_zero
  have hb : Btw t2 0 0 1 := by decide
  match k, hk with
  | 0, _ => exact h0
  | 1, _ => exact h0.step (by omega) hb
theorem t2_ok : gfault 2 1 t2 = 0 := gfault_ok (by omega) (by omega) (fun i hi => by
  obtain rfl : i = 0 := by omega
  exact t2_edge) t2_conn
theorem t2_rows {w : World} {b : Nat} (h : Row w b 74 [.int .i64 0, .int .i64 1, .int .i64 2]) : Mem.Rows w (some ⟨b, 0, none⟩) 1 3 (fun i j => .int .i64 (t2 i j)) := fun i hi => by
  obtain rfl : i = 0 := by omega
  refine ⟨b, 0, rfl, h.lt, fun j hj => ?_⟩
  rw [show 0 + 0 * 3 + j = j by omega, h.cell j]
  match j, hj with
  | 0, _ => rfl
  | 1, _ => rfl
  | 2, _ => rfl
theorem t2_ch : chfault 2 1 t2 [[0, 3]] = 0 := by
  rw [chfault_l t2_ok]; decide
theorem t2_red {R : Nat → Int} (hE : Eqv 2 (fun a b => btw t2 a b 1) (fun k => [(0 : Int), 3].getD k 0) R) (hR : Reduced 2 (fun a b => btw t2 a b 1) R 0) : R 0 = 2 ∧ R 1 = 1 := by
  have h1 : Eqv 2 (fun a b => btw t2 a b 1) (fun k => [(0 : Int), 3].getD k 0) (fun k => [(2 : Int), 1].getD k 0) := ⟨fun k => if k = 1 then 1 else 0, fun k hk => by
    match k, hk with
    | 0, _ => decide
    | 1, _ => decide⟩
  have h2 : Reduced 2 (fun a b => btw t2 a b 1) (fun k => [(2 : Int), 1].getD k 0) 0 := by
    refine ⟨fun k hk hne => ?_, fun S hS k hk => ?_⟩
    · match k, hk with
      | 0, _ => exact absurd rfl hne
      | 1, _ => decide
    · match k, hk with
      | 0, _ => exact hS.no
      | 1, _ =>
        cases h : S 1
        · rfl
        · have h3 := hS.can 1 (by omega) h
          have h4 : outS 2 (fun a b => btw t2 a b 1) S 1 = 2 := by
            show (0 + if S 0 = true then 0 else btw t2 1 0 1) + (if S 1 = true then 0 else btw t2 1 1 1) = 2
            rw [hS.no, h]; decide
          rw [h4] at h3
          exact absurd h3 (by decide)
  have h3 := h2.unique hR (h1.symm.trans hE) (by omega)
  exact ⟨(h3 0 (by omega)).symm, (h3 1 (by omega)).symm⟩
theorem eqv_lst {p : Nat} {E : Nat → Nat → Nat} {R : Nat → Int} : Eqv p E R (fun k => (lstF p R).getD k 0) := .of_eq fun k hk => (lstF_get hk).symm
theorem sum_lst {p : Nat} {R : Nat → Int} : sumZ (fun k => (lstF p R).getD k 0) p = sumZ R p := sumZ_congr fun k hk => lstF_get hk
theorem legal_lst {p : Nat} {E : Nat → Nat → Nat} {R : Nat → Int} {a : Nat} {F : Nat → Bool} (hb : Burn p E (fun k => (lstF p R).getD k 0) a (fun j => !F j)) (hl : ∀ k, k < p → F k = true → (outS p E F k : Int) ≤ (lstF p R).getD k 0) : Legal p E R a F := by
  refine ⟨?_, fun k hk hf => ?_⟩
  · have h1 : (!F a) = true := hb.at0
    simpa using h1
  · have h1 := hl k hk hf
    rw [lstF_get hk] at h1
    exact h1
theorem ch_one {p m : Nat} {f : Nat → Nat → Int} {zs : List Int} (hg : gfault (p : Int) m f = 0) (hz : dfault p zs = 0) : chfault (p : Int) m f [zs] = 0 := by
  rw [chfault_l hg, Int.toNat_natCast]
  unfold lchk
  rw [if_neg (fun h => h hz)]
  rfl
theorem ch_two {p m : Nat} {f : Nat → Nat → Int} {zs ys : List Int} (hg : gfault (p : Int) m f = 0) (hz : dfault p zs = 0) (hy : dfault p ys = 0) : chfault (p : Int) m f [zs, ys] = 0 := by
  rw [chfault_l hg, Int.toNat_natCast]
  unfold lchk
  rw [if_neg (fun h => h hz)]
  unfold lchk
  rw [if_neg (fun h => h hy)]
  rfl
theorem ch_g {P : Int} {m : Nat} {f : Nat → Nat → Int} {L : List (List Int)} (h : chfault P m f L = 0) : gfault P m f = 0 := Classical.byContradiction fun hn => by
  rw [chfault_g hn] at h
  exact hn h
theorem ch_d {p m : Nat} {f : Nat → Nat → Int} {zs : List Int} (h : chfault (p : Int) m f [zs] = 0) : dfault p zs = 0 := by
  rw [chfault_l (ch_g h), Int.toNat_natCast] at h
  unfold lchk at h
  by_cases h1 : dfault p zs ≠ 0
  · rw [if_pos h1] at h; exact absurd h h1
  · exact Classical.byContradiction h1
end Ch
end Go.Proofs.YtjikildiblchpaaDoor

/- WALK of the document's answer: edenref6.give, Fire. -/
namespace Go.Proofs.YtjikildiblchpaaDoor
set_option linter.unusedSimpArgs false
set_option linter.unusedVariables false
open Go.RowKit Go.Lib
namespace Ch
open Tld Mem Rt

/-- What giving makes, edge by edge. -/
def eG (D : Nat → Int) (S : Nat → Bool) (t : Int) (f : Nat → Nat → Int) : Nat → Nat → Int
  | 0 => D
  | i + 1 => if S (eA f i) = true ∧ S (eB f i) = false then updZ (updZ (eG D S t f i) (eA f i) (eG D S t f i (eA f i) - (eT f i : Int) * t)) (eB f i) (eG D S t f i (eB f i) + (eT f i : Int) * t)
    else if S (eB f i) = true ∧ S (eA f i) = false then updZ (updZ (eG D S t f i) (eB f i) (eG D S t f i (eB f i) - (eT f i : Int) * t)) (eA f i) (eG D S t f i (eA f i) + (eT f i : Int) * t)
    else eG D S t f i
theorem edge_lap {p m j : Nat} {f : Nat → Nat → Int} {σ : Nat → Int} (h : EdgeN p f m) (hj : j < p) : sumZ (fun o => ((if Btw f m j o then eT f m else 0 : Nat) : Int) * (σ j - σ o)) p = if j = eA f m then (eT f m : Int) * (σ (eA f m) - σ (eB f m)) else if j = eB f m then (eT f m : Int) * (σ (eB f m) - σ (eA f m)) else 0 := by
  have hne := h.ne
  have hal := h.al
  have hbl := h.bl
  by_cases e1 : j = eA f m
  · rw [if_pos e1]
    have e2 := sumZ_pick (a := eB f m) (F := fun o => (eT f m : Int) * (σ j - σ o)) (n := p)
    rw [if_pos hbl, e1] at e2
    rw [← e2, e1]
    refine sumZ_congr fun o _ => ?_
    by_cases ho : eB f m = o
    · rw [if_pos (show Btw f m (eA f m) o from .inl ⟨rfl, ho⟩), if_pos ho]
    · rw [if_neg (show ¬ Btw f m (eA f m) o from fun h => h.elim (fun h => ho h.2) (fun h => hne h.2.symm)), if_neg ho]; simp
  · rw [if_neg e1]
    by_cases e3 : j = eB f m
    · rw [if_pos e3]
      have e2 := sumZ_pick (a := eA f m) (F := fun o => (eT f m : Int) * (σ j - σ o)) (n := p)
      rw [if_pos hal, e3] at e2
      rw [← e2, e3]
      refine sumZ_congr fun o _ => ?_
      by_cases ho : eA f m = o
      · rw [if_pos (show Btw f m (eB f m) o from .inr ⟨ho, rfl⟩), if_pos ho]
      · rw [if_neg (show ¬ Btw f m (eB f m) o from fun h => h.elim (fun h => hne h.1) (fun h => ho h.1)), if_neg ho]; simp
    · rw [if_neg e3, sumZ_congr (G := fun _ => 0) fun o _ => ?_, sumZ_zero]
      rw [if_neg (show ¬ Btw f m j o from fun h => h.elim (fun h => e1 h.1.symm) (fun h => e3 h.2.symm))]; simp
theorem lap_edge {p m j : Nat} {f : Nat → Nat → Int} {σ : Nat → Int} : lap p (fun a b => btw f a b (m + 1)) σ j = lap p (fun a b => btw f a b m) σ j + sumZ (fun o => ((if Btw f m j o then eT f m else 0 : Nat) : Int) * (σ j - σ o)) p := by
  unfold lap
  rw [← sumZ_add]
  refine sumZ_congr fun o _ => ?_
  show ((btw f j o (m + 1) : Nat) : Int) * (σ j - σ o) = ((btw f j o m : Nat) : Int) * (σ j - σ o) + _
  rw [btw_succ, Int.natCast_add, Int.add_mul]
theorem eG_lap {p : Nat} {f : Nat → Nat → Int} {D : Nat → Int} {S : Nat → Bool} {t : Int} : ∀ {m : Nat}, (∀ i, i < m → EdgeN p f i) → ∀ j, j < p → eG D S t f m j = D j - lap p (fun a b => btw f a b m) (fun k => if S k then t else 0) j
  | 0, _, j, _ => by
    have : lap p (fun a b => btw f a b 0) (fun k => if S k then t else 0) j = 0 := by
      unfold lap
      rw [sumZ_congr (G := fun _ => 0) fun o _ => ?_, sumZ_zero]
      show ((0 : Nat) : Int) * _ = 0
      simp
    rw [this]
    show D j = D j - 0
    omega
  | m + 1, h, j, hj => by
    have ih := eG_lap (D := D) (S := S) (t := t) (m := m) fun i hi => h i (by omega)
    have hm := h m (by omega)
    have hne := hm.ne
    have el := edge_lap (σ := fun k => if S k = true then t else 0) hm hj
    rw [lap_edge, el]
    have hal := hm.al
    have hbl := hm.bl
    unfold eG
    by_cases hA : S (eA f m) = true
    · by_cases hB : S (eB f m) = true
      · rw [if_neg (fun x => by rw [hB] at x; cases x.2), if_neg (fun x => by rw [hA] at x; cases x.2), ih j hj, if_pos hA, if_pos hB]
        split
        · simp
        · split <;> simp
      · have hB2 : S (eB f m) = false := by cases hb : S (eB f m); rfl; exact absurd hb hB
        rw [if_pos ⟨hA, hB2⟩, if_pos hA, if_neg hB]
        by_cases e1 : j = eB f m
        · rw [e1, updZ_at, if_neg (Ne.symm hne), if_pos rfl, ih _ hbl, Int.zero_sub, Int.mul_neg]; omega
        · rw [updZ_no e1]
          by_cases e2 : j = eA f m
          · rw [e2, updZ_at, if_pos rfl, ih _ hal, Int.sub_zero]; omega
          · rw [updZ_no e2, if_neg e2, if_neg e1, ih j hj]; omega
    · have hA2 : S (eA f m) = false := by cases hb : S (eA f m); rfl; exact absurd hb hA
      rw [if_neg (fun x => hA x.1)]
      by_cases hB : S (eB f m) = true
      · rw [if_pos ⟨hB, hA2⟩, if_neg hA, if_pos hB]
        by_cases e1 : j = eA f m
        · rw [e1, updZ_at, if_pos rfl, ih _ hal, Int.zero_sub, Int.mul_neg]; omega
        · rw [updZ_no e1]
          by_cases e2 : j = eB f m
          · rw [e2, updZ_at, if_neg (Ne.symm hne), if_pos rfl, ih _ hbl, Int.sub_zero]; omega
          · rw [updZ_no e2, if_neg e1, if_neg e2, ih j hj]; omega
      · rw [if_neg (fun x => hB x.1), ih j hj, if_neg hA, if_neg hB]
        split
        · simp
        · split <;> simp
theorem eG_fire {p m : Nat} {f : Nat → Nat → Int} {D : Nat → Int} {S : Nat → Bool} {t : Int} (h : ∀ i, i < m → EdgeN p f i) {j : Nat} (hj : j < p) : eG D S t f m j = fireZ p (fun a b => btw f a b m) D S t j := by
  rw [eG_lap h j hj, fire_lap]
theorem vecB_chg {w w' : World} {b P : Nat} {F : Nat → Bool} {X : Nat → Prop} (h : VecB w b P F) (hc : Chg X w w') (hx : ¬ X b) : VecB w' b P F := by
  obtain ⟨cs, h1, h2⟩ := h.row
  exact ⟨⟨cs, row_chg h1 hc hx, h2⟩⟩
theorem chg_drew {X : Nat → Prop} {w w' : World} (h : Chg X w w') : Chg X w w'.drew := ⟨h.os, h.tape, h.output, h.size, h.block⟩

set_option maxHeartbeats 8000000 in
set_option maxRecDepth 1000000 in
theorem give_any (p : Nat) (ea : Option Addr) (m ec : Nat) (f : Nat → Nat → Int) (bd cd bs cs : Nat) (S : Nat → Bool) (D : Nat → Int) (t : Int) (w0 w : World) (hE : Mem.Rows w0 ea m 3 (fun i j => .int .i64 (f i j))) (hB0 : Below w0.heap.size w0 w) (hbd : w0.heap.size ≤ bd) (hm : m ≤ 40) (hN : ∀ i, i < m → EdgeN p f i) (hD : Vec w bd p fun k => wrap64 (D k)) (hS : VecB w bs p S) :
    Calls Tryd.prog 44 #[.agg #[.int .i64 (p : Int), .slice ea m ec], .slice (some ⟨bd, 0, none⟩) p cd, .slice (some ⟨bs, 0, none⟩) p cs, .int .i64 t] w fun e w' => (∃ v, e = .returned v) ∧ Vec w' bd p (fun k => wrap64 (fireZ p (fun a b => btw f a b m) D S t k)) ∧ Chg (fun b => b = bd) w w' := by
  have hsd : bs ≠ bd := by
    obtain ⟨c1, h1, _⟩ := hS.row
    obtain ⟨c2, h2, _⟩ := hD.row
    exact row_ne h1 h2 (by decide)
  have hdl := hD.lt
  have HE := Lib.hid hE
  have HB0 := Lib.hid hB0
  have HEN := Lib.hid hN
  have HD := Lib.hid hD
  have HSS := Lib.hid hS
  clear hE hB0 hN hD hS
  go_enter Tryd.func44, Tryd.ntmps44
  go_upto_region 1 with fail
  have hR : Row (w.alloc (.cells #[.int .i64 (p : Int), .slice ea m ec] 24)) w.heap.size 24 [.int .i64 (p : Int), .slice ea m ec] := row_alloc w _ _
  have hB : Below w.heap.size w (w.alloc (.cells #[.int .i64 (p : Int), .slice ea m ec] 24)) := (Below.refl _ _).alloc (Nat.le_refl _) _
  have HG := Lib.hid hR
  have HB := Lib.hid hB
  clear hR hB
  generalize w.alloc (.cells #[.int .i64 (p : Int), .slice ea m ec] 24) = w1 at *
  have HC : Hid (Chg (fun b => b = bd) w w1) := Chg.below HB.out
  have HV := Lib.hid (HD.out.keep HB.out hdl)
  have hgd : w.heap.size ≠ bd := by omega
  clear HB
  go_wp2_with fail
  go_loopw [8] (fun z wr => ∃ i : Nat, i ≤ m ∧ z = .int .i64 (i : Int) ∧ Vec wr bd p (fun j => wrap64 (eG D S t f i j)) ∧ Row wr w.heap.size 24 [.int .i64 (p : Int), .slice ea m ec] ∧ Chg (fun b => b = bd) w wr) (fun z _ => m - (intOf z).toNat)
  case atStart => exact ⟨0, Nat.zero_le _, rfl, HV.out, HG.out, HC.out⟩
  case round =>
    clear HV HG HC
    obtain ⟨i, him, rfl, hv, hg, hc⟩ := hrel
    have HV := Lib.hid hv
    have HG := Lib.hid hg
    have HC := Lib.hid hc
    have g1 := hg.cell 1
    dsimp only [List.getElem?_cons_succ, List.getElem?_cons_zero] at g1
    clear hv hg hc
    by_cases hlt : i < m
    · --{ROUND
      obtain ⟨b, off, rfl, hbl, hrest⟩ := HE.out i hlt
      clear hrest
      have l1 := edges_range (fun i hi => by
        obtain ⟨b', o', e, h1, h2⟩ := HE.out i hi
        refine ⟨b', o', e, Nat.lt_of_lt_of_le (Nat.lt_of_lt_of_le h1 HB0.out.size) HC.out.size, fun j hj => ?_⟩
        rw [show wr.cell? ⟨b', o' + i * 3 + j, none⟩ = w.cell? ⟨b', o' + i * 3 + j, none⟩ from World.cell?_of_block (HC.out.block b' (Nat.lt_of_lt_of_le h1 HB0.out.size) (by omega)), HB0.out.cell h1]
        exact h2 j hj) hlt (w := wr) (b := b) (off := off)
      have hi2 : (i : Int) < (m : Int) := by omega
      have hN := HEN.out i hlt
      rw [hN.a, hN.b, hN.t] at l1
      have hne := hN.ne
      have al := hN.al
      have cl := hN.bl
      have HNX : Hid (eG D S t f (i + 1) = if S (eA f i) = true ∧ S (eB f i) = false then updZ (updZ (eG D S t f i) (eA f i) (eG D S t f i (eA f i) - (eT f i : Int) * t)) (eB f i) (eG D S t f i (eB f i) + (eT f i : Int) * t) else if S (eB f i) = true ∧ S (eA f i) = false then updZ (updZ (eG D S t f i) (eB f i) (eG D S t f i (eB f i) - (eT f i : Int) * t)) (eA f i) (eG D S t f i (eA f i) + (eT f i : Int) * t) else eG D S t f i) := rfl
      obtain ⟨a, ha⟩ : ∃ a, a = eA f i := ⟨_, rfl⟩
      obtain ⟨c, hc⟩ : ∃ c, c = eB f i := ⟨_, rfl⟩
      obtain ⟨T, ht⟩ : ∃ t, t = eT f i := ⟨_, rfl⟩
      rw [← ha, ← hc, ← ht] at l1 HNX
      rw [← ha, ← hc] at hne
      rw [← ha] at al
      rw [← hc] at cl
      clear hN ha hc ht
      have hrow : Row (wr.alloc (.cells #[.int .i64 (a : Int), .int .i64 (c : Int), .int .i64 (T : Int)] 74)) wr.heap.size 74 [.int .i64 (a : Int), .int .i64 (c : Int), .int .i64 (T : Int)] := row_alloc wr _ _
      have hbn2 : Below wr.heap.size wr (wr.alloc (.cells #[.int .i64 (a : Int), .int .i64 (c : Int), .int .i64 (T : Int)] 74)) := (Below.refl _ _).alloc (Nat.le_refl _) _
      go_upto_region 5 with (refine wpList_load_mid rfl 74 _ rfl b (off + i * 3) rfl _ _ l1 Tryd.underlying74 rfl infoEdge ?_)
      have HGa := Lib.hid (HG.out.keep hbn2 HG.out.lt)
      have HVa := Lib.hid (HV.out.keep hbn2 HV.out.lt)
      have HCa : Hid (Chg (fun b => b = bd) w (wr.alloc (.cells #[.int .i64 (a : Int), .int .i64 (c : Int), .int .i64 (T : Int)] 74))) := HC.out.trans (Chg.below (X := fun b => b = bd) hbn2) fun _ _ h => h
      have hed : wr.heap.size ≠ bd := by have := HV.out.lt; omega
      have HR := Lib.hid hrow
      obtain ⟨be, hbe⟩ : ∃ b, b = wr.heap.size := ⟨_, rfl⟩
      rw [← hbe] at HR hed ⊢
      clear hbn2 hrow l1 g1 HG HV HC hbe hlt
      generalize wr.alloc (.cells #[.int .i64 (a : Int), .int .i64 (c : Int), .int .i64 (T : Int)] 74) = w2 at *
      have HSa := Lib.hid (vecB_chg HSS.out HCa.out hsd)
      have e0 := HR.out.cell 0
      have e1 := HR.out.cell 1
      have e2 := HR.out.cell 2
      dsimp only [List.getElem?_cons_succ, List.getElem?_cons_zero] at e0 e1 e2
      have sa1 := HSa.out.cell al
      have sc1 := HSa.out.cell cl
      obtain ⟨sa, hsa⟩ : ∃ b, b = S a := ⟨_, rfl⟩
      rw [← hsa] at sa1 HNX
      obtain ⟨sc, hsc⟩ : ∃ b, b = S c := ⟨_, rfl⟩
      rw [← hsc] at sc1 HNX
      have HSA := Lib.hid hsa
      have HSC := Lib.hid hsc
      clear hsa hsc
      have al2 : (a : Int) < (p : Int) := by omega
      have cl2 : (c : Int) < (p : Int) := by omega
      cases sa
      case true =>
        cases sc
        case false =>
          have HN2 : Hid (eG D S t f (i + 1) = updZ (updZ (eG D S t f i) a (eG D S t f i a - (T : Int) * t)) c (eG D S t f i c + (T : Int) * t)) := by
            show _ = _
            rw [HNX.out, if_pos ⟨rfl, rfl⟩]
          have c1 := HVa.out.cell al
          have z1 := HVa.out.frozen a
          obtain ⟨da, hda⟩ : ∃ z, z = wrap64 (eG D S t f i a) := ⟨_, rfl⟩
          have HDA := Lib.hid hda
          rw [← hda] at c1
          obtain ⟨dd, hdd⟩ : ∃ z, z = wrap64 (eG D S t f i c) := ⟨_, rfl⟩
          have HDD := Lib.hid hdd
          clear hda hdd
          have o1 := only_setCell w2 bd a (.int .i64 (wrap64 (da - wrap64 ((T : Int) * t))))
          have HV1 := Lib.hid (HVa.out.set al (wrap64 (da - wrap64 ((T : Int) * t))))
          have HR1 := Lib.hid (HR.out.other o1 hed)
          have HG1 := Lib.hid (HGa.out.other o1 hgd)
          have HS1 := Lib.hid (HSa.out.other o1 hsd)
          have HC1 := Lib.hid (HCa.out.trans (Chg.only o1) fun b _ h => h)
          clear o1
          go_upto_region 7 with fail
          refine wp_region_noPanic ?_
          go_region
          refine NoPanic.normal ?_
          have HV1 : Hid (Vec (w2.setCell ⟨bd, a, none⟩ (.int .i64 (wrap64 (da - wrap64 ((T : Int) * t))))).drew bd p _) := ⟨HV1.out.row⟩
          have HR1 : Hid (Row (w2.setCell ⟨bd, a, none⟩ (.int .i64 (wrap64 (da - wrap64 ((T : Int) * t))))).drew be 74 _) := HR1.out
          have HG1 : Hid (Row (w2.setCell ⟨bd, a, none⟩ (.int .i64 (wrap64 (da - wrap64 ((T : Int) * t))))).drew w.heap.size 24 _) := HG1.out
          have HS1 : Hid (VecB (w2.setCell ⟨bd, a, none⟩ (.int .i64 (wrap64 (da - wrap64 ((T : Int) * t))))).drew bs p S) := ⟨HS1.out.row⟩
          have HC1 : Hid (Chg (fun b => b = bd) w (w2.setCell ⟨bd, a, none⟩ (.int .i64 (wrap64 (da - wrap64 ((T : Int) * t))))).drew) := chg_drew HC1.out
          clear c1 z1 e0 e1 e2 sa1 sc1 HVa HR HGa HSa HCa
          generalize (w2.setCell ⟨bd, a, none⟩ (.int .i64 (wrap64 (da - wrap64 ((T : Int) * t))))).drew = w3 at *
          have e0 := HR1.out.cell 0
          have e1 := HR1.out.cell 1
          have e2 := HR1.out.cell 2
          dsimp only [List.getElem?_cons_succ, List.getElem?_cons_zero] at e0 e1 e2
          have c2 := HV1.out.cell cl
          rw [upd_no (show c ≠ a by omega), ← HDD.out] at c2
          have z2 := HV1.out.frozen c
          have o2 := only_setCell w3 bd c (.int .i64 (wrap64 (dd + wrap64 ((T : Int) * t))))
          have HV2 := Lib.hid ((HV1.out.set cl (wrap64 (dd + wrap64 ((T : Int) * t)))).congr (G := fun j => wrap64 (eG D S t f (i + 1) j)) fun j hj => by
            rw [HN2.out]
            by_cases q1 : j = c
            · rw [q1, upd_at, updZ_at, HDD.out, wrap_add_mul]
            · rw [upd_no q1, updZ_no q1]
              by_cases q2 : j = a
              · rw [q2, upd_at, updZ_at, HDA.out, wrap_sub_mul]
              · rw [upd_no q2, updZ_no q2])
          have HG2 := Lib.hid (HG1.out.other o2 hgd)
          have HR2 := Lib.hid (HR1.out.other o2 hed)
          have HS2 := Lib.hid (HS1.out.other o2 hsd)
          have HC2 := Lib.hid (HC1.out.trans (Chg.only o2) fun b _ h => h)
          clear o2
          go_upto_region 8 with fail
          refine wp_region_noPanic ?_
          go_region
          refine NoPanic.normal ?_
          have HV3 : Hid (Vec (w3.setCell ⟨bd, c, none⟩ (.int .i64 (wrap64 (dd + wrap64 ((T : Int) * t))))).drew bd p (fun j => wrap64 (eG D S t f (i + 1) j))) := ⟨HV2.out.row⟩
          have HG3 : Hid (Row (w3.setCell ⟨bd, c, none⟩ (.int .i64 (wrap64 (dd + wrap64 ((T : Int) * t))))).drew w.heap.size 24 _) := HG2.out
          have HR3 : Hid (Row (w3.setCell ⟨bd, c, none⟩ (.int .i64 (wrap64 (dd + wrap64 ((T : Int) * t))))).drew be 74 _) := HR2.out
          have HS3 : Hid (VecB (w3.setCell ⟨bd, c, none⟩ (.int .i64 (wrap64 (dd + wrap64 ((T : Int) * t))))).drew bs p S) := ⟨HS2.out.row⟩
          have HC3 : Hid (Chg (fun b => b = bd) w (w3.setCell ⟨bd, c, none⟩ (.int .i64 (wrap64 (dd + wrap64 ((T : Int) * t))))).drew) := chg_drew HC2.out
          clear c2 z2 e0 e1 e2 HV1 HR1 HG1 HS1 HC1 HV2 HG2 HR2 HS2 HC2
          generalize (w3.setCell ⟨bd, c, none⟩ (.int .i64 (wrap64 (dd + wrap64 ((T : Int) * t))))).drew = w4 at *
          have e0 := HR3.out.cell 0
          have e1 := HR3.out.cell 1
          have e2 := HR3.out.cell 2
          dsimp only [List.getElem?_cons_succ, List.getElem?_cons_zero] at e0 e1 e2
          have sc2 := HS3.out.cell cl
          rw [← HSC.out] at sc2
          have sa2 := HS3.out.cell al
          rw [← HSA.out] at sa2
          go_wp2_with fail
          go_roundw
          case rel => exact ⟨i + 1, by omega, by go_num, HV3.out, HG3.out, HC3.out⟩
          case measure => simp [intOf]; omega
        case true =>
          have HN2 : Hid (eG D S t f (i + 1) = eG D S t f i) := by
            show _ = _
            rw [HNX.out, if_neg (by decide), if_neg (by decide)]
          have HV3 : Hid (Vec w2 bd p (fun j => wrap64 (eG D S t f (i + 1) j))) := by
            show Vec _ _ _ _
            rw [HN2.out]; exact HVa.out
          go_wp2_with fail
          go_roundw
          case rel => exact ⟨i + 1, by omega, by go_num, HV3.out, HGa.out, HCa.out⟩
          case measure => simp [intOf]; omega
      case false =>
        cases sc
        case false =>
          have HN2 : Hid (eG D S t f (i + 1) = eG D S t f i) := by
            show _ = _
            rw [HNX.out, if_neg (by decide), if_neg (by decide)]
          have HV3 : Hid (Vec w2 bd p (fun j => wrap64 (eG D S t f (i + 1) j))) := by
            show Vec _ _ _ _
            rw [HN2.out]; exact HVa.out
          go_wp2_with fail
          go_roundw
          case rel => exact ⟨i + 1, by omega, by go_num, HV3.out, HGa.out, HCa.out⟩
          case measure => simp [intOf]; omega
        case true =>
          have HN2 : Hid (eG D S t f (i + 1) = updZ (updZ (eG D S t f i) c (eG D S t f i c - (T : Int) * t)) a (eG D S t f i a + (T : Int) * t)) := by
            show _ = _
            rw [HNX.out, if_neg (by decide), if_pos ⟨rfl, rfl⟩]
          have c1 := HVa.out.cell cl
          have z1 := HVa.out.frozen c
          obtain ⟨da, hda⟩ : ∃ z, z = wrap64 (eG D S t f i c) := ⟨_, rfl⟩
          have HDA := Lib.hid hda
          rw [← hda] at c1
          obtain ⟨dd, hdd⟩ : ∃ z, z = wrap64 (eG D S t f i a) := ⟨_, rfl⟩
          have HDD := Lib.hid hdd
          clear hda hdd
          have o1 := only_setCell w2 bd c (.int .i64 (wrap64 (da - wrap64 ((T : Int) * t))))
          have HV1 := Lib.hid (HVa.out.set cl (wrap64 (da - wrap64 ((T : Int) * t))))
          have HR1 := Lib.hid (HR.out.other o1 hed)
          have HG1 := Lib.hid (HGa.out.other o1 hgd)
          have HS1 := Lib.hid (HSa.out.other o1 hsd)
          have HC1 := Lib.hid (HCa.out.trans (Chg.only o1) fun b _ h => h)
          clear o1
          go_upto_region 10 with fail
          refine wp_region_noPanic ?_
          go_region
          refine NoPanic.normal ?_
          have HV1 : Hid (Vec (w2.setCell ⟨bd, c, none⟩ (.int .i64 (wrap64 (da - wrap64 ((T : Int) * t))))).drew bd p _) := ⟨HV1.out.row⟩
          have HR1 : Hid (Row (w2.setCell ⟨bd, c, none⟩ (.int .i64 (wrap64 (da - wrap64 ((T : Int) * t))))).drew be 74 _) := HR1.out
          have HG1 : Hid (Row (w2.setCell ⟨bd, c, none⟩ (.int .i64 (wrap64 (da - wrap64 ((T : Int) * t))))).drew w.heap.size 24 _) := HG1.out
          have HS1 : Hid (VecB (w2.setCell ⟨bd, c, none⟩ (.int .i64 (wrap64 (da - wrap64 ((T : Int) * t))))).drew bs p S) := ⟨HS1.out.row⟩
          have HC1 : Hid (Chg (fun b => b = bd) w (w2.setCell ⟨bd, c, none⟩ (.int .i64 (wrap64 (da - wrap64 ((T : Int) * t))))).drew) := chg_drew HC1.out
          clear c1 z1 e0 e1 e2 sa1 sc1 HVa HR HGa HSa HCa
          generalize (w2.setCell ⟨bd, c, none⟩ (.int .i64 (wrap64 (da - wrap64 ((T : Int) * t))))).drew = w3 at *
          have e0 := HR1.out.cell 0
          have e1 := HR1.out.cell 1
          have e2 := HR1.out.cell 2
          dsimp only [List.getElem?_cons_succ, List.getElem?_cons_zero] at e0 e1 e2
          have c2 := HV1.out.cell al
          rw [upd_no (show a ≠ c by omega), ← HDD.out] at c2
          have z2 := HV1.out.frozen a
          have o2 := only_setCell w3 bd a (.int .i64 (wrap64 (dd + wrap64 ((T : Int) * t))))
          have HV2 := Lib.hid ((HV1.out.set al (wrap64 (dd + wrap64 ((T : Int) * t)))).congr (G := fun j => wrap64 (eG D S t f (i + 1) j)) fun j hj => by
            rw [HN2.out]
            by_cases q1 : j = a
            · rw [q1, upd_at, updZ_at, HDD.out, wrap_add_mul]
            · rw [upd_no q1, updZ_no q1]
              by_cases q2 : j = c
              · rw [q2, upd_at, updZ_at, HDA.out, wrap_sub_mul]
              · rw [upd_no q2, updZ_no q2])
          have HG2 := Lib.hid (HG1.out.other o2 hgd)
          have HR2 := Lib.hid (HR1.out.other o2 hed)
          have HS2 := Lib.hid (HS1.out.other o2 hsd)
          have HC2 := Lib.hid (HC1.out.trans (Chg.only o2) fun b _ h => h)
          clear o2
          go_upto_region 11 with fail
          refine wp_region_noPanic ?_
          go_region
          refine NoPanic.normal ?_
          have HV3 : Hid (Vec (w3.setCell ⟨bd, a, none⟩ (.int .i64 (wrap64 (dd + wrap64 ((T : Int) * t))))).drew bd p (fun j => wrap64 (eG D S t f (i + 1) j))) := ⟨HV2.out.row⟩
          have HG3 : Hid (Row (w3.setCell ⟨bd, a, none⟩ (.int .i64 (wrap64 (dd + wrap64 ((T : Int) * t))))).drew w.heap.size 24 _) := HG2.out
          have HR3 : Hid (Row (w3.setCell ⟨bd, a, none⟩ (.int .i64 (wrap64 (dd + wrap64 ((T : Int) * t))))).drew be 74 _) := HR2.out
          have HS3 : Hid (VecB (w3.setCell ⟨bd, a, none⟩ (.int .i64 (wrap64 (dd + wrap64 ((T : Int) * t))))).drew bs p S) := ⟨HS2.out.row⟩
          have HC3 : Hid (Chg (fun b => b = bd) w (w3.setCell ⟨bd, a, none⟩ (.int .i64 (wrap64 (dd + wrap64 ((T : Int) * t))))).drew) := chg_drew HC2.out
          clear c2 z2 e0 e1 e2 HV1 HR1 HG1 HS1 HC1 HV2 HG2 HR2 HS2 HC2
          generalize (w3.setCell ⟨bd, a, none⟩ (.int .i64 (wrap64 (dd + wrap64 ((T : Int) * t))))).drew = w4 at *
          go_wp2_with fail
          go_roundw
          case rel => exact ⟨i + 1, by omega, by go_num, HV3.out, HG3.out, HC3.out⟩
          case measure => simp [intOf]; omega
      --}
    · obtain rfl : i = m := by omega
      have HV3 : Hid (Vec wr bd p (fun j => wrap64 (fireZ p (fun a b => btw f a b i) D S t j))) := HV.out.congr fun j hj => by rw [eG_fire HEN.out hj]
      go_wp2_with fail
      go_end0
      exact ⟨⟨_, rfl⟩, HV3.out, HC.out⟩
end Ch
end Go.Proofs.YtjikildiblchpaaDoor

/- PLAIN: how far places are, found by looking at all edges again and again (the document's way). -/
namespace Go.Proofs.YtjikildiblchpaaDoor
set_option linter.unusedSimpArgs false
set_option linter.unusedVariables false
open Go.RowKit Go.Lib
namespace Ch
open Rt (btw deg Btw eA eB eT EdgeN ConnG GOk sumN btw_pos)

theorem bf_row {P : Nat} {w : Nat → Nat → Nat} (hG : Gr P w) {a : Nat} {h : Nat} : ∀ (o : Nat), o ≤ P → ∀ {far : Nat → Int} {q : List Nat}, Bf P w a far (h :: q) 0 → ∃ far' q', Bf P w a far' (h :: q') o ∧ 2 * (P - cntF P far') + q'.length ≤ 2 * (P - cntF P far) + q.length
  | 0, _, far, q, b => ⟨far, q, b, Nat.le_refl _⟩
  | o + 1, ho, far, q, b => by
    obtain ⟨far1, q1, b1, hm1⟩ := bf_row hG o (by omega) b
    by_cases hn : 0 < w h o ∧ far1 o < 0
    · have b2 := b1.new hG.sym (by omega) hn.1 hn.2
      have hc := cntF_add (P := P) (far := far1) (o := o) (v := far1 h + 1) (by omega) hn.2 (by have := (b1.inQ h (List.mem_cons_self ..)).2; omega)
      have hcl := cntF_le (P := P) (far := updZ far1 o (far1 h + 1))
      refine ⟨_, q1 ++ [o], b2, ?_⟩
      rw [hc] at hcl ⊢
      rw [List.length_append]
      show 2 * (P - (cntF P far1 + 1)) + (q1.length + 1) ≤ _
      omega
    · exact ⟨far1, q1, b1.skip fun hw => Int.not_lt.1 fun hx => hn ⟨hw, hx⟩, hm1⟩
theorem bf_all {P : Nat} {w : Nat → Nat → Nat} (hG : Gr P w) {a : Nat} : ∀ (n : Nat) {far : Nat → Int} {q : List Nat}, Bf P w a far q 0 → 2 * (P - cntF P far) + q.length ≤ n → ∃ far', Bf P w a far' [] 0
  | _, far, [], b, _ => ⟨far, b⟩
  | 0, far, h :: q, b, hn => by rw [List.length_cons] at hn; omega
  | n + 1, far, h :: q, b, hn => by
    obtain ⟨far1, q1, b1, hm⟩ := bf_row hG P (Nat.le_refl _) b
    rw [List.length_cons] at hn
    exact bf_all hG n b1.pop (by omega)
theorem exists_far {P : Nat} {w : Nat → Nat → Nat} (hG : Gr P w) {a : Nat} (ha : a < P) : ∃ d : Nat → Nat, (∀ k, k < P → d k < P) ∧ FarOk P w a d := by
  obtain ⟨far, b⟩ := bf_all hG _ (Bf.start (w := w) ha) (Nat.le_refl _)
  obtain ⟨d, h1, h2⟩ := b.fin hG ha
  exact ⟨d, fun k hk => (h1 k hk).2, h2⟩
/-- One place is brought nearer by another. -/
def relax (far : Nat → Int) (x y : Nat) : Nat → Int := if far y + 1 < far x then updZ far x (far y + 1) else far
theorem relax_le {far : Nat → Int} {x y k : Nat} : relax far x y k ≤ far k := by
  unfold relax
  split
  · by_cases e : k = x
    · rw [e, updZ_at]; omega
    · rw [updZ_no e]; exact Int.le_refl _
  · exact Int.le_refl _
theorem relax_at {far : Nat → Int} {x y : Nat} : relax far x y x ≤ far y + 1 := by
  unfold relax
  split
  · rw [updZ_at]; exact Int.le_refl _
  · omega
/-- Where the looking stands: places no farther than n are right; of the edges, the first i are through. -/
structure Bm (P : Nat) (f : Nat → Nat → Int) (d : Nat → Nat) (far : Nat → Int) (n i : Nat) : Prop where
  ge : ∀ k, k < P → (d k : Int) ≤ far k
  eq : ∀ k, k < P → d k ≤ n → far k = (d k : Int)
  ed : ∀ j, j < i → ∀ x y, Btw f j x y → d x ≤ n → far y ≤ (d x : Int) + 1
  top : ∀ k, k < P → far k ≤ 100
theorem Bm.rlx {P m : Nat} {f : Nat → Nat → Int} {d : Nat → Nat} {a : Nat} {far : Nat → Int} {n i x y : Nat} (h : Bm P f d far n i) (hF : FarOk P (fun a b => btw f a b m) a d) (hx : x < P) (hy : y < P) (hw : 0 < btw f x y m) (hP : ∀ j, j < i → EdgeN P f j) : Bm P f d (relax far x y) n i := by
  have hge : ∀ k, k < P → (d k : Int) ≤ Ch.relax far x y k := fun k hk => by
    unfold Ch.relax
    split
    · by_cases e : k = x
      · rw [e, updZ_at]
        have h1 := h.ge y hy
        have h2 := hF.lip x y hx hy hw
        omega
      · rw [updZ_no e]; exact h.ge k hk
    · exact h.ge k hk
  refine ⟨hge, fun k hk hn => Int.le_antisymm (by rw [← h.eq k hk hn]; exact relax_le) (hge k hk), fun j hj u v hb hu => Int.le_trans relax_le (h.ed j hj u v hb hu), fun k hk => Int.le_trans relax_le (h.top k hk)⟩
theorem Bm.edge {P m : Nat} {f : Nat → Nat → Int} {d : Nat → Nat} {a : Nat} {far : Nat → Int} {n i : Nat} (h : Bm P f d far n i) (hF : FarOk P (fun a b => btw f a b m) a d) (hE : ∀ j, j < m → EdgeN P f j) (hi : i < m) : Bm P f d (relax (relax far (eA f i) (eB f i)) (eB f i) (eA f i)) n (i + 1) := by
  have he := hE i hi
  have hw : 0 < btw f (eA f i) (eB f i) m := (btw_pos hE).2 ⟨i, hi, .inl ⟨rfl, rfl⟩⟩
  have hw2 : 0 < btw f (eB f i) (eA f i) m := (btw_pos hE).2 ⟨i, hi, .inr ⟨rfl, rfl⟩⟩
  have h1 := h.rlx hF he.al he.bl hw fun j hj => hE j (by omega)
  have h2 := h1.rlx hF he.bl he.al hw2 fun j hj => hE j (by omega)
  refine ⟨h2.ge, h2.eq, fun j hj x y hb hx => ?_, h2.top⟩
  by_cases e : j = i
  · subst e
    rcases hb with ⟨rfl, rfl⟩ | ⟨rfl, rfl⟩
    · have h3 := h1.eq _ he.al hx
      have h4 := relax_at (far := relax far (eA f j) (eB f j)) (x := eB f j) (y := eA f j)
      omega
    · have h3 := h.eq _ he.bl hx
      have h4 := relax_at (far := far) (x := eA f j) (y := eB f j)
      exact Int.le_trans relax_le (by omega)
  · exact h2.ed j (by omega) x y hb hx
theorem Bm.round {P m : Nat} {f : Nat → Nat → Int} {d : Nat → Nat} {a : Nat} {far : Nat → Int} {n : Nat} (h : Bm P f d far n m) (hF : FarOk P (fun a b => btw f a b m) a d) (hE : ∀ j, j < m → EdgeN P f j) : Bm P f d far (n + 1) 0 := by
  refine ⟨h.ge, fun k hk hn => ?_, fun j hj => absurd hj (Nat.not_lt_zero _), h.top⟩
  by_cases e : d k ≤ n
  · exact h.eq k hk e
  · have hk0 : k ≠ a := fun e2 => by have := (hF.zero k hk).2 e2; omega
    obtain ⟨o, ho, hw, he⟩ := hF.near k hk hk0
    obtain ⟨j, hj, hb⟩ := (btw_pos hE).1 hw
    have h1 := h.ed j hj o k hb.swap (by omega)
    have h2 := h.ge k hk
    omega
theorem Bm.start {P m : Nat} {f : Nat → Nat → Int} {d : Nat → Nat} {a : Nat} (hF : FarOk P (fun a b => btw f a b m) a d) (hd : ∀ k, k < P → d k < P) (hP : P ≤ 10) (ha : a < P) : Bm P f d (updZ (fun _ => 100) a 0) 0 0 := by
  have h0 := (hF.zero a ha).2 rfl
  refine ⟨fun k hk => ?_, fun k hk hn => ?_, fun j hj => absurd hj (Nat.not_lt_zero _), fun k hk => ?_⟩
  · by_cases e : k = a
    · rw [e, updZ_at, h0]; exact Int.le_refl _
    · rw [updZ_no e]; have := hd k hk; omega
  · have e := (hF.zero k hk).1 (by omega)
    rw [e, updZ_at, h0]; rfl
  · by_cases e : k = a
    · rw [e, updZ_at]; omega
    · rw [updZ_no e]; exact Int.le_refl _
theorem Bm.fin {P : Nat} {f : Nat → Nat → Int} {d : Nat → Nat} {far : Nat → Int} {i : Nat} (h : Bm P f d far P i) (hd : ∀ k, k < P → d k < P) : ∀ k, k < P → far k = (d k : Int) := fun k hk => h.eq k hk (by have := hd k hk; omega)
end Ch
end Go.Proofs.YtjikildiblchpaaDoor

/- WALK of the document's answer: edenref6.Reduced: one edge is looked at. Printed by gens/chdred.py. -/
namespace Go.Proofs.YtjikildiblchpaaDoor
set_option linter.unusedSimpArgs false
set_option linter.unusedVariables false
open Go.RowKit Go.Lib
namespace Ch
open Tld Mem Rt

set_option maxHeartbeats 8000000 in
set_option maxRecDepth 1000000 in
theorem dr1 (p i m : Nat) (ea : Option Addr) (ec : Nat) (f : Nat → Nat → Int) (far : Nat → Int) (bg bf cf : Nat) (w0 w : World) (HE : Hid (Mem.Rows w0 ea m 3 (fun i j => .int .i64 (f i j)))) (HB0 : Hid (Below w0.heap.size w0 w)) (hN : EdgeN p f i) (hlt : i < m) (hm : m ≤ 40)
    (HG : Hid (Row w bg 24 [.int .i64 (p : Int), .slice ea m ec])) (HV : Hid (Vec w bf p far)) (hgf : bg ≠ bf) (hlo : ∀ k, k < p → 0 ≤ far k ∧ far k ≤ 100)
    (c0 c1 c2 c4 c5 c6 c7 c9 c10 c12 c13 c14 c15 c16 c17 c18 c19 c20 c21 c22 c23 c24 c25 c26 c27 c28 c29 c30 c31 c32 c33 c34 c35 c36 c37 c38 c39 c40 c41 c42 c43 c44 c45 c46 c47 c48 c49 c50 c51 c52 c53 c54 c55 c56 c57 c58 c59 c60 c61 c62 c63 c64 c65 c66 c67 c68 c69 c70 c71 c72 c73 c74 c75 c76 c77 c78 c79 c80 c81 c82 c83 c84 c85 c86 c87 c88 c89 c90 c91 c92 c93 c94 c95 c96 c97 c98 c99 c100 c101 c102 c103 c104 c105 c106 c107 c108 c109 c110 c111 c112 c113 c114 c115 c116 c117 c118 c119 c120 c121 c122 c123 c124 c125 c126 c127 c128 c129 c130 c131 c132 c133 c134 c135 c136 c137 c138 c139 c140 c141 c142 c143 c144 c145 c146 c147 c148 c149 c150 c151 c152 c153 c154 c155 c156 c157 c158 c159 c160 c161 c162 c163 c164 c165 c166 c167 c168 c169 c170 c171 c172 c173 c174 c175 c176 c177 c178 c179 c180 c181 c182 c183 c184 c185 c186 c187 c188 c189 c190 c191 c192 c193 c194 c195 c196 c197 c198 c199 c200 c201 c202 c203 c204 c205 c206 c207 c208 c209 c210 c211 c212 c213 c214 c215 c216 : Value) (Q : Exit → Act → World → Prop)
    (hok : ∀ {u12 u55 u56 u57 u58 u59 u60 u61 u62 u63 u64 u65 u66 u67 u68 u69 u70 u71 u72 u73 u74 u75 u76 u77 u78 u79 u80 u81 u82 u83 u84 u85 u86 u87 u88 u89 u90 u91 u92 u93 u94 u95 u96 u97 u98 u99 u100 u101 u102 u103 : Value} {w' : World}, Vec w' bf p (relax (relax far (eA f i) (eB f i)) (eB f i) (eA f i)) → Chg (fun b => b = bf) w w' → Q .normal ⟨#[c0, c1, c2, .pointer (some ⟨bg, 0, none⟩), c4, c5, c6, c7, .slice (some ⟨bf, 0, none⟩) p cf, c9, c10, .int .i64 (i : Int), u12, c13, c14, c15, c16, c17, c18, c19, c20, c21, c22, c23, c24, c25, c26, c27, c28, c29, c30, c31, c32, c33, c34, c35, c36, c37, c38, c39, c40, c41, c42, c43, c44, c45, c46, c47, c48, c49, c50, c51, c52, c53, c54, u55, u56, u57, u58, u59, u60, u61, u62, u63, u64, u65, u66, u67, u68, u69, u70, u71, u72, u73, u74, u75, u76, u77, u78, u79, u80, u81, u82, u83, u84, u85, u86, u87, u88, u89, u90, u91, u92, u93, u94, u95, u96, u97, u98, u99, u100, u101, u102, u103, c104, c105, c106, c107, c108, c109, c110, c111, c112, c113, c114, c115, c116, c117, c118, c119, c120, c121, c122, c123, c124, c125, c126, c127, c128, c129, c130, c131, c132, c133, c134, c135, c136, c137, c138, c139, c140, c141, c142, c143, c144, c145, c146, c147, c148, c149, c150, c151, c152, c153, c154, c155, c156, c157, c158, c159, c160, c161, c162, c163, c164, c165, c166, c167, c168, c169, c170, c171, c172, c173, c174, c175, c176, c177, c178, c179, c180, c181, c182, c183, c184, c185, c186, c187, c188, c189, c190, c191, c192, c193, c194, c195, c196, c197, c198, c199, c200, c201, c202, c203, c204, c205, c206, c207, c208, c209, c210, c211, c212, c213, c214, c215, c216], []⟩ w')
    : Code.wp Tryd.prog ((Pc.frm 15 (Tryd.f28.body.getD .skip)).getD .skip) Q ⟨#[c0, c1, c2, .pointer (some ⟨bg, 0, none⟩), c4, c5, c6, c7, .slice (some ⟨bf, 0, none⟩) p cf, c9, c10, .int .i64 (i : Int), c12, c13, c14, c15, c16, c17, c18, c19, c20, c21, c22, c23, c24, c25, c26, c27, c28, c29, c30, c31, c32, c33, c34, c35, c36, c37, c38, c39, c40, c41, c42, c43, c44, c45, c46, c47, c48, c49, c50, c51, c52, c53, c54, c55, c56, c57, c58, c59, c60, c61, c62, c63, c64, c65, c66, c67, c68, c69, c70, c71, c72, c73, c74, c75, c76, c77, c78, c79, c80, c81, c82, c83, c84, c85, c86, c87, c88, c89, c90, c91, c92, c93, c94, c95, c96, c97, c98, c99, c100, c101, c102, c103, c104, c105, c106, c107, c108, c109, c110, c111, c112, c113, c114, c115, c116, c117, c118, c119, c120, c121, c122, c123, c124, c125, c126, c127, c128, c129, c130, c131, c132, c133, c134, c135, c136, c137, c138, c139, c140, c141, c142, c143, c144, c145, c146, c147, c148, c149, c150, c151, c152, c153, c154, c155, c156, c157, c158, c159, c160, c161, c162, c163, c164, c165, c166, c167, c168, c169, c170, c171, c172, c173, c174, c175, c176, c177, c178, c179, c180, c181, c182, c183, c184, c185, c186, c187, c188, c189, c190, c191, c192, c193, c194, c195, c196, c197, c198, c199, c200, c201, c202, c203, c204, c205, c206, c207, c208, c209, c210, c211, c212, c213, c214, c215, c216], []⟩ w := by
  conv => arg 2; whnf
  have hi2 : (i : Int) < (m : Int) := by omega
  obtain ⟨b, off, rfl, hbl, hrest⟩ := HE.out i hlt
  clear hrest
  have g1 := HG.out.cell 1
  dsimp only [List.getElem?_cons_succ, List.getElem?_cons_zero] at g1
  have l1 := edges_range (fun i hi => by
    obtain ⟨b', o', e, h1, h2⟩ := HE.out i hi
    exact ⟨b', o', e, Nat.lt_of_lt_of_le h1 HB0.out.size, fun j hj => by rw [HB0.out.cell h1]; exact h2 j hj⟩) hlt (w := w) (b := b) (off := off)
  rw [hN.a, hN.b, hN.t] at l1
  have hne := hN.ne
  have al := hN.al
  have cl := hN.bl
  obtain ⟨a, ha⟩ : ∃ a, a = eA f i := ⟨_, rfl⟩
  obtain ⟨c, hc⟩ : ∃ c, c = eB f i := ⟨_, rfl⟩
  obtain ⟨T, ht⟩ : ∃ t, t = eT f i := ⟨_, rfl⟩
  rw [← ha, ← hc] at hok hne
  rw [← ha, ← hc, ← ht] at l1
  rw [← ha] at al
  rw [← hc] at cl
  clear hN ha hc ht
  have al2 : (a : Int) < (p : Int) := by omega
  have cl2 : (c : Int) < (p : Int) := by omega
  obtain ⟨hA0, hA1⟩ := hlo a al
  obtain ⟨hC0, hC1⟩ := hlo c cl
  clear hlo
  have hrow : Row (w.alloc (.cells #[.int .i64 (a : Int), .int .i64 (c : Int), .int .i64 (T : Int)] 74)) w.heap.size 74 [.int .i64 (a : Int), .int .i64 (c : Int), .int .i64 (T : Int)] := row_alloc w _ _
  have hbn2 : Below w.heap.size w (w.alloc (.cells #[.int .i64 (a : Int), .int .i64 (c : Int), .int .i64 (T : Int)] 74)) := (Below.refl _ _).alloc (Nat.le_refl _) _
  go_upto_region 16 with (refine wpList_load_mid rfl 74 _ rfl b (off + i * 3) rfl _ _ l1 Tryd.underlying74 rfl infoEdge ?_)
  have HVa := Lib.hid (HV.out.keep hbn2 HV.out.lt)
  have HCa : Hid (Chg (fun b => b = bf) w (w.alloc (.cells #[.int .i64 (a : Int), .int .i64 (c : Int), .int .i64 (T : Int)] 74))) := Chg.below hbn2
  have hed : w.heap.size ≠ bf := by have := HV.out.lt; omega
  have HR := Lib.hid hrow
  obtain ⟨be, hbe⟩ : ∃ b, b = w.heap.size := ⟨_, rfl⟩
  rw [← hbe] at HR hed ⊢
  clear hbn2 hrow l1 g1 hbe
  generalize w.alloc (.cells #[.int .i64 (a : Int), .int .i64 (c : Int), .int .i64 (T : Int)] 74) = w2 at *
  have e0 := HR.out.cell 0
  have e1 := HR.out.cell 1
  dsimp only [List.getElem?_cons_succ, List.getElem?_cons_zero] at e0 e1
  have ca := HVa.out.cell al
  have cc := HVa.out.cell cl
  have HF1 : Hid (far c + 1 < far a → relax far a c = updZ far a (far c + 1)) := fun h => if_pos h
  have HF2 : Hid (¬ far c + 1 < far a → relax far a c = far) := fun h => if_neg h
  obtain ⟨fa, hfa⟩ : ∃ x, x = far a := ⟨_, rfl⟩
  obtain ⟨fc, hfc⟩ : ∃ x, x = far c := ⟨_, rfl⟩
  have HFA := Lib.hid hfa
  have HFC := Lib.hid hfc
  rw [← hfa] at ca hA0 hA1 HF1 HF2
  rw [← hfc] at cc hC0 hC1 HF1 HF2
  clear hfa hfc
  go_big_quiet (fail)
  have HVb := Lib.hid (HVa.out.drewN nq)
  have HRb := Lib.hid (HR.out.drewN nq)
  have HCb : Hid (Chg (fun b => b = bf) w (w2.drewN nq)) := ⟨HCa.out.os, HCa.out.tape, HCa.out.output, HCa.out.size, HCa.out.block⟩
  clear HVa HR HCa e0 e1 ca cc
  generalize w2.drewN nq = w3 at *
  have e0 := HRb.out.cell 0
  have e1 := HRb.out.cell 1
  dsimp only [List.getElem?_cons_succ, List.getElem?_cons_zero] at e0 e1
  by_cases h1 : fc + 1 < fa
  · have ca := HVb.out.cell al
    have cc := HVb.out.cell cl
    rw [← HFC.out] at cc
    have za := HVb.out.frozen a
    have o1 := only_setCell w3 bf a (.int .i64 (fc + 1))
    have HVc := Lib.hid (HVb.out.set al (fc + 1))
    have HRc := Lib.hid (HRb.out.other o1 hed)
    have HCc := Lib.hid (HCb.out.trans (Chg.only o1) fun b _ h => h)
    clear o1
    go_upto_region 17 with fail
    refine wp_region_noPanic ?_
    go_region
    refine NoPanic.normal ?_
    have HVe : Hid (Vec (w3.setCell ⟨bf, a, none⟩ (.int .i64 (fc + 1))).drew bf p (updZ far a (fc + 1))) := ⟨HVc.out.row⟩
    have HRe : Hid (Row (w3.setCell ⟨bf, a, none⟩ (.int .i64 (fc + 1))).drew be 74 _) := HRc.out
    have HCe : Hid (Chg (fun b => b = bf) w (w3.setCell ⟨bf, a, none⟩ (.int .i64 (fc + 1))).drew) := chg_drew HCc.out
    clear HVc HRc HCc HVb HRb HCb ca cc za e0 e1
    generalize (w3.setCell ⟨bf, a, none⟩ (.int .i64 (fc + 1))).drew = w4 at *
    have e0 := HRe.out.cell 0
    have e1 := HRe.out.cell 1
    dsimp only [List.getElem?_cons_succ, List.getElem?_cons_zero] at e0 e1
    have HRX := Lib.hid (HF1.out h1)
    obtain ⟨xa, hxa⟩ : ∃ x, x = fc + 1 := ⟨_, rfl⟩
    have HXA : Hid (xa = updZ far a (fc + 1) a) := by rw [updZ_at]; exact hxa
    obtain ⟨xc, hxc⟩ : ∃ x, x = fc := ⟨_, rfl⟩
    have HXC : Hid (xc = updZ far a (fc + 1) c) := by rw [updZ_no (Ne.symm hne), ← HFC.out]; exact hxc
    have hxa2 : 0 ≤ xa ∧ xa ≤ 101 := by omega
    have hxc2 : 0 ≤ xc ∧ xc ≤ 101 := by omega
    clear hxa hxc
    have HS1 : Hid (xa + 1 < xc → relax (relax far a c) c a = updZ (updZ far a (fc + 1)) c (xa + 1)) := fun h => by
      show _ = _
      rw [HRX.out]
      show (if (updZ far a (fc + 1)) a + 1 < (updZ far a (fc + 1)) c then updZ (updZ far a (fc + 1)) c ((updZ far a (fc + 1)) a + 1) else (updZ far a (fc + 1))) = _
      rw [← HXA.out, ← HXC.out, if_pos h]
    have HS2 : Hid (¬ xa + 1 < xc → relax (relax far a c) c a = (updZ far a (fc + 1))) := fun h => by
      show _ = _
      rw [HRX.out]
      show (if (updZ far a (fc + 1)) a + 1 < (updZ far a (fc + 1)) c then updZ (updZ far a (fc + 1)) c ((updZ far a (fc + 1)) a + 1) else (updZ far a (fc + 1))) = _
      rw [← HXA.out, ← HXC.out, if_neg h]
    have ca := HVe.out.cell al
    have cc := HVe.out.cell cl
    rw [← HXA.out] at ca
    rw [← HXC.out] at cc
    go_upto_region 18 with fail
    go_big_quiet (fail)
    have HVd := Lib.hid (HVe.out.drewN nq)
    have HRd := Lib.hid (HRe.out.drewN nq)
    have HCd : Hid (Chg (fun b => b = bf) w (w4.drewN nq)) := ⟨HCe.out.os, HCe.out.tape, HCe.out.output, HCe.out.size, HCe.out.block⟩
    clear HVe HRe HCe e0 e1 ca cc
    generalize w4.drewN nq = w5 at *
    have e0 := HRd.out.cell 0
    have e1 := HRd.out.cell 1
    dsimp only [List.getElem?_cons_succ, List.getElem?_cons_zero] at e0 e1
    by_cases h2 : xa + 1 < xc
    · have HS3 := Lib.hid (HS1.out h2)
      have ca := HVd.out.cell al
      rw [← HXA.out] at ca
      have cc := HVd.out.cell cl
      have zc := HVd.out.frozen c
      have o2 := only_setCell w5 bf c (.int .i64 (xa + 1))
      have HV6 := Lib.hid ((HVd.out.set cl (xa + 1)).congr (G := relax (relax far a c) c a) fun j hj => by rw [HS3.out]; rfl)
      have HC6 := Lib.hid (HCd.out.trans (Chg.only o2) fun b _ h => h)
      clear o2 HS1 HS2
      go_upto_region 19 with fail
      refine wp_region_noPanic ?_
      go_region
      refine NoPanic.normal ?_
      have HV7 : Hid (Vec (w5.setCell ⟨bf, c, none⟩ (.int .i64 (xa + 1))).drew bf p (relax (relax far a c) c a)) := ⟨HV6.out.row⟩
      have HC7 : Hid (Chg (fun b => b = bf) w (w5.setCell ⟨bf, c, none⟩ (.int .i64 (xa + 1))).drew) := chg_drew HC6.out
      clear HV6 HC6 HVd HCd ca cc zc
      generalize (w5.setCell ⟨bf, c, none⟩ (.int .i64 (xa + 1))).drew = w6 at *
      go_wp2_with fail
      exact hok HV7.out HC7.out
    · have HV7 := Lib.hid (HVd.out.congr (G := relax (relax far a c) c a) fun j hj => by rw [HS2.out h2])
      go_wp2_with fail
      exact hok HV7.out HCd.out
  · have HRX := Lib.hid (HF2.out h1)
    obtain ⟨xa, hxa⟩ : ∃ x, x = fa := ⟨_, rfl⟩
    have HXA : Hid (xa = far a) := hxa.trans HFA.out
    obtain ⟨xc, hxc⟩ : ∃ x, x = fc := ⟨_, rfl⟩
    have HXC : Hid (xc = far c) := hxc.trans HFC.out
    have hxa2 : 0 ≤ xa ∧ xa ≤ 101 := by omega
    have hxc2 : 0 ≤ xc ∧ xc ≤ 101 := by omega
    clear hxa hxc
    have HS1 : Hid (xa + 1 < xc → relax (relax far a c) c a = updZ far c (xa + 1)) := fun h => by
      show _ = _
      rw [HRX.out]
      show (if far a + 1 < far c then updZ far c (far a + 1) else far) = _
      rw [← HXA.out, ← HXC.out, if_pos h]
    have HS2 : Hid (¬ xa + 1 < xc → relax (relax far a c) c a = far) := fun h => by
      show _ = _
      rw [HRX.out]
      show (if far a + 1 < far c then updZ far c (far a + 1) else far) = _
      rw [← HXA.out, ← HXC.out, if_neg h]
    have ca := HVb.out.cell al
    have cc := HVb.out.cell cl
    rw [← HXA.out] at ca
    rw [← HXC.out] at cc
    go_upto_region 18 with fail
    go_big_quiet (fail)
    have HVd := Lib.hid (HVb.out.drewN nq)
    have HRd := Lib.hid (HRb.out.drewN nq)
    have HCd : Hid (Chg (fun b => b = bf) w (w3.drewN nq)) := ⟨HCb.out.os, HCb.out.tape, HCb.out.output, HCb.out.size, HCb.out.block⟩
    clear HVb HRb HCb e0 e1 ca cc
    generalize w3.drewN nq = w5 at *
    have e0 := HRd.out.cell 0
    have e1 := HRd.out.cell 1
    dsimp only [List.getElem?_cons_succ, List.getElem?_cons_zero] at e0 e1
    by_cases h2 : xa + 1 < xc
    · have HS3 := Lib.hid (HS1.out h2)
      have ca := HVd.out.cell al
      rw [← HXA.out] at ca
      have cc := HVd.out.cell cl
      have zc := HVd.out.frozen c
      have o2 := only_setCell w5 bf c (.int .i64 (xa + 1))
      have HV6 := Lib.hid ((HVd.out.set cl (xa + 1)).congr (G := relax (relax far a c) c a) fun j hj => by rw [HS3.out]; rfl)
      have HC6 := Lib.hid (HCd.out.trans (Chg.only o2) fun b _ h => h)
      clear o2 HS1 HS2
      go_upto_region 19 with fail
      refine wp_region_noPanic ?_
      go_region
      refine NoPanic.normal ?_
      have HV7 : Hid (Vec (w5.setCell ⟨bf, c, none⟩ (.int .i64 (xa + 1))).drew bf p (relax (relax far a c) c a)) := ⟨HV6.out.row⟩
      have HC7 : Hid (Chg (fun b => b = bf) w (w5.setCell ⟨bf, c, none⟩ (.int .i64 (xa + 1))).drew) := chg_drew HC6.out
      clear HV6 HC6 HVd HCd ca cc zc
      generalize (w5.setCell ⟨bf, c, none⟩ (.int .i64 (xa + 1))).drew = w6 at *
      go_wp2_with fail
      exact hok HV7.out HC7.out
    · have HV7 := Lib.hid (HVd.out.congr (G := relax (relax far a c) c a) fun j hj => by rw [HS2.out h2])
      go_wp2_with fail
      exact hok HV7.out HCd.out
end Ch
end Go.Proofs.YtjikildiblchpaaDoor

/- WALK of the document's answer: edenref6.Reduced: one level pays. Printed by gens/chdred.py. -/
namespace Go.Proofs.YtjikildiblchpaaDoor
set_option linter.unusedSimpArgs false
set_option linter.unusedVariables false
open Go.RowKit Go.Lib
namespace Ch
open Tld Mem Rt

set_option maxHeartbeats 8000000 in
set_option maxRecDepth 1000000 in
theorem dr2 (p r m : Nat) (ea : Option Addr) (ec : Nat) (f : Nat → Nat → Int) (far : Nat → Nat) (D : Nat → Int) (bg bd cd bf cf a : Nat) (w0 w : World) (hok' : GOk p m f) (hF : FarOk p (fun a b => btw f a b m) a far) (hr : 0 < r) (hr9 : r ≤ 10) (hfp : ∀ k, k < p → far k < p) (HE : Hid (Mem.Rows w0 ea m 3 (fun i j => .int .i64 (f i j)))) (HB0 : Hid (Below w0.heap.size w0 w)) (hbd : w0.heap.size ≤ bd) (hne : bf ≠ bd)
    (HG : Hid (Row w bg 24 [.int .i64 (p : Int), .slice ea m ec])) (hgd : bg ≠ bd) (HD : Hid (Vec w bd p D)) (HV : Hid (Vec w bf p fun k => (far k : Int))) (hb : ∀ k, k < p → -3000000000000000000 ≤ D k ∧ D k ≤ 3000000000000001100)
    (c0 c1 c2 c4 c5 c6 c9 c10 c11 c12 c14 c15 c16 c17 c18 c19 c20 c21 c22 c23 c24 c25 c26 c27 c28 c29 c30 c31 c32 c33 c34 c35 c36 c37 c38 c39 c40 c41 c42 c43 c44 c45 c46 c47 c48 c49 c50 c51 c52 c53 c54 c55 c56 c57 c58 c59 c60 c61 c62 c63 c64 c65 c66 c67 c68 c69 c70 c71 c72 c73 c74 c75 c76 c77 c78 c79 c80 c81 c82 c83 c84 c85 c86 c87 c88 c89 c90 c91 c92 c93 c94 c95 c96 c97 c98 c99 c100 c101 c102 c103 c104 c105 c106 c107 c108 c109 c110 c111 c112 c113 c114 c115 c116 c117 c118 c119 c120 c121 c122 c123 c124 c125 c126 c127 c128 c129 c130 c131 c132 c133 c134 c135 c136 c137 c138 c139 c140 c141 c142 c143 c144 c145 c146 c147 c148 c149 c150 c151 c152 c153 c154 c155 c156 c157 c158 c159 c160 c161 c162 c163 c164 c165 c166 c167 c168 c169 c170 c171 c172 c173 c174 c175 c176 c177 c178 c179 c180 c181 c182 c183 c184 c185 c186 c187 c188 c189 c190 c191 c192 c193 c194 c195 c196 c197 c198 c199 c200 c201 c202 c203 c204 c205 c206 c207 c208 c209 c210 c211 c212 c213 c214 c215 c216 : Value) (Q : Exit → Act → World → Prop)
    (hok : ∀ {u14 u15 u16 u17 u18 u19 u110 u111 u112 u113 u114 u115 u116 u117 u118 u119 u120 u121 u122 u123 u124 u125 u126 u127 u128 u129 u130 u131 u132 u133 u134 u135 u136 u137 u138 u139 u140 u141 u142 u143 u144 u145 u146 u147 u148 u149 u150 u151 u152 u153 u154 u155 u156 u157 u158 u159 u160 u161 u162 u163 u164 u165 u166 u167 u168 : Value} {w' : World}, (∃ t, Times p (fun a b => btw f a b m) far D r t ∧ Vec w' bd p (fun k => wrap64 (fireZ p (fun a b => btw f a b m) D (fun j => decide (far j < r)) t k))) → Chg (fun b => b = bd) w w' → Q .normal ⟨#[c0, c1, c2, .pointer (some ⟨bg, 0, none⟩), c4, c5, c6, .slice (some ⟨bd, 0, none⟩) p cd, .slice (some ⟨bf, 0, none⟩) p cf, c9, c10, c11, c12, .int .i64 (r : Int), u14, u15, u16, u17, u18, u19, c20, c21, c22, c23, c24, c25, c26, c27, c28, c29, c30, c31, c32, c33, c34, c35, c36, c37, c38, c39, c40, c41, c42, c43, c44, c45, c46, c47, c48, c49, c50, c51, c52, c53, c54, c55, c56, c57, c58, c59, c60, c61, c62, c63, c64, c65, c66, c67, c68, c69, c70, c71, c72, c73, c74, c75, c76, c77, c78, c79, c80, c81, c82, c83, c84, c85, c86, c87, c88, c89, c90, c91, c92, c93, c94, c95, c96, c97, c98, c99, c100, c101, c102, c103, c104, c105, c106, c107, c108, c109, u110, u111, u112, u113, u114, u115, u116, u117, u118, u119, u120, u121, u122, u123, u124, u125, u126, u127, u128, u129, u130, u131, u132, u133, u134, u135, u136, u137, u138, u139, u140, u141, u142, u143, u144, u145, u146, u147, u148, u149, u150, u151, u152, u153, u154, u155, u156, u157, u158, u159, u160, u161, u162, u163, u164, u165, u166, u167, u168, c169, c170, c171, c172, c173, c174, c175, c176, c177, c178, c179, c180, c181, c182, c183, c184, c185, c186, c187, c188, c189, c190, c191, c192, c193, c194, c195, c196, c197, c198, c199, c200, c201, c202, c203, c204, c205, c206, c207, c208, c209, c210, c211, c212, c213, c214, c215, c216], []⟩ w')
    : Code.wp Tryd.prog ((Pc.frm 23 (Tryd.f28.body.getD .skip)).getD .skip) Q ⟨#[c0, c1, c2, .pointer (some ⟨bg, 0, none⟩), c4, c5, c6, .slice (some ⟨bd, 0, none⟩) p cd, .slice (some ⟨bf, 0, none⟩) p cf, c9, c10, c11, c12, .int .i64 (r : Int), c14, c15, c16, c17, c18, c19, c20, c21, c22, c23, c24, c25, c26, c27, c28, c29, c30, c31, c32, c33, c34, c35, c36, c37, c38, c39, c40, c41, c42, c43, c44, c45, c46, c47, c48, c49, c50, c51, c52, c53, c54, c55, c56, c57, c58, c59, c60, c61, c62, c63, c64, c65, c66, c67, c68, c69, c70, c71, c72, c73, c74, c75, c76, c77, c78, c79, c80, c81, c82, c83, c84, c85, c86, c87, c88, c89, c90, c91, c92, c93, c94, c95, c96, c97, c98, c99, c100, c101, c102, c103, c104, c105, c106, c107, c108, c109, c110, c111, c112, c113, c114, c115, c116, c117, c118, c119, c120, c121, c122, c123, c124, c125, c126, c127, c128, c129, c130, c131, c132, c133, c134, c135, c136, c137, c138, c139, c140, c141, c142, c143, c144, c145, c146, c147, c148, c149, c150, c151, c152, c153, c154, c155, c156, c157, c158, c159, c160, c161, c162, c163, c164, c165, c166, c167, c168, c169, c170, c171, c172, c173, c174, c175, c176, c177, c178, c179, c180, c181, c182, c183, c184, c185, c186, c187, c188, c189, c190, c191, c192, c193, c194, c195, c196, c197, c198, c199, c200, c201, c202, c203, c204, c205, c206, c207, c208, c209, c210, c211, c212, c213, c214, c215, c216], []⟩ w := by
  conv => arg 2; whnf
  have hp10 := hok'.p10
  have HOK := Lib.hid hok'
  have HGR := Lib.hid (gr_of hok')
  have HGP : Hid (∀ k, k < p → far k = r → 0 < inS p (fun a b => btw f a b m) (fun j => decide (far j < r)) k) := fun k hk h => get_pos hF hk h hr
  have HBD := Lib.hid hb
  have HFP := Lib.hid hfp
  have hmk := mk_bools p hp10
  have g0 := HG.out.cell 0
  dsimp only [List.getElem?_cons_zero] at g0
  clear hb hok' hF hfp
  go_upto_region 24 with fail
  have HS0 := Lib.hid (vecB_made w p)
  have hal : Below w.heap.size w (w.alloc (.cells (Array.replicate p (Value.bool false)) 4)) := (Below.refl _ _).alloc (Nat.le_refl _) _
  have HD1 := Lib.hid (HD.out.keep hal HD.out.lt)
  have HV1 := Lib.hid (HV.out.keep hal HV.out.lt)
  have HG1 := Lib.hid (HG.out.keep hal HG.out.lt)
  have HB1 := Lib.hid hal
  obtain ⟨bs, hbse⟩ : ∃ b, b = w.heap.size := ⟨_, rfl⟩
  rw [← hbse] at HS0
  rw [← hbse]
  have hbsd : bs ≠ bd := by have := HD.out.lt; omega
  have hbsf : bs ≠ bf := by have := HV.out.lt; omega
  have hbsg : bs ≠ bg := by have := HG.out.lt; omega
  have hbw : w.heap.size ≤ bs := by omega
  clear hal hmk hbse g0
  generalize w.alloc (.cells (Array.replicate p (Value.bool false)) 4) = w1 at *
  go_wp2_with fail
  go_loopw [15] (fun z wr => ∃ k : Nat, k ≤ p ∧ z = .int .i64 (k : Int) ∧ VecB wr bs p (fun j => if j < k then decide (far j < r) else false) ∧ Only bs w1 wr) (fun z _ => p - (intOf z).toNat)
  case atStart => exact ⟨0, Nat.zero_le _, rfl, HS0.out.congr fun j hj => by rw [if_neg (Nat.not_lt_zero _)], Only.refl _ _⟩
  case round =>
    clear HS0
    obtain ⟨k, hkP, rfl, hs, ho⟩ := hrel
    have HS := Lib.hid hs
    have HO := Lib.hid ho
    clear hs ho
    have g0 := (HG1.out.other HO.out hbsg.symm).cell 0
    dsimp only [List.getElem?_cons_zero] at g0
    by_cases hk : k < p
    · have hk2 : (k : Int) < (p : Int) := by omega
      have f1 := (HV1.out.other HO.out hbsf.symm).cell hk
      have s1 := HS.out.frozen k
      have s2 := HS.out.cell hk
      have o1 := only_setCell wr bs k (.bool (decide (far k < r)))
      have HO2 := Lib.hid (HO.out.trans o1)
      have HS2 := Lib.hid ((HS.out.set hk (decide (far k < r))).congr (G := fun j => if j < k + 1 then decide (far j < r) else false) fun j hj => by
        by_cases e : j = k
        · rw [e, updB_at, if_pos (by omega)]
        · rw [updB_no e]
          by_cases e2 : j < k
          · rw [if_pos e2, if_pos (by omega)]
          · rw [if_neg e2, if_neg (by omega)])
      clear o1
      obtain ⟨x, hx⟩ : ∃ x, x = far k := ⟨_, rfl⟩
      rw [← hx] at f1 HO2 HS2
      clear hx
      by_cases hxr : x < r
      · have hxr2 : (x : Int) < (r : Int) := by omega
        rw [decide_eq_true hxr] at HO2 HS2
        go_wp2_with fail
        go_roundw
        case rel => exact ⟨k + 1, by omega, by go_num, HS2.out, HO2.out⟩
        case measure => simp [intOf]; omega
      · have hxr2 : ¬ (x : Int) < (r : Int) := by omega
        rw [decide_eq_false hxr] at HO2 HS2
        go_wp2_with fail
        go_roundw
        case rel => exact ⟨k + 1, by omega, by go_num, HS2.out, HO2.out⟩
        case measure => simp [intOf]; omega
    · obtain rfl : k = p := by omega
      have HS := Lib.hid (HS.out.congr (G := fun j => decide (far j < r)) fun j hj => by rw [if_pos hj])
      have HD2 := Lib.hid (HD1.out.other HO.out (Ne.symm hbsd))
      have HV2 := Lib.hid (HV1.out.other HO.out hbsf.symm)
      have HG2 := Lib.hid (HG1.out.other HO.out hbsg.symm)
      have HB2 := Lib.hid (HB1.out.trans (HO.out.below hbw))
      clear HD1 HV1 HG1 HB1 HO
      obtain ⟨p, rfl⟩ : ∃ q, q = k := ⟨_, rfl⟩
      go_wp2_with fail
      clear g0
      go_loopw [16, 17] (fun y z wr => ∃ (k : Nat) (t : Int), k ≤ p ∧ y = .int .i64 t ∧ z = .int .i64 (k : Int) ∧ TimesI p (fun a b => btw f a b m) far D r k t ∧ t ≤ 4000000000000000000 ∧ VecB wr bs p (fun j => decide (far j < r)) ∧ Vec wr bd p D ∧ Vec wr bf p (fun k => (far k : Int)) ∧ Row wr bg 24 [.int .i64 (p : Int), .slice ea m ec] ∧ Below w.heap.size w wr) (fun _ z _ => p - (intOf z).toNat)
      case atStart => exact ⟨0, 0, Nat.zero_le _, rfl, rfl, .start, by omega, HS.out, HD2.out, HV2.out, HG2.out, HB2.out⟩
      case round =>
        clear HS HD2 HV2 HG2 HB2
        obtain ⟨k, t, hkP, rfl, rfl, ht, ht4, hs, hd, hv, hg, hb⟩ := hrel
        have HT := Lib.hid ht
        have ht0 := ht.pos
        have HS := Lib.hid hs
        have HD2 := Lib.hid hd
        have HV2 := Lib.hid hv
        have HG2 := Lib.hid hg
        have HB2 := Lib.hid hb
        have g0 := hg.cell 0
        dsimp only [List.getElem?_cons_zero] at g0
        clear ht hs hd hv hg hb
        by_cases hk : k < p
        · have hk2 : (k : Int) < (p : Int) := by omega
          have f1 := HV2.out.cell hk
          have d1 := HD2.out.cell hk
          have HSK : Hid ((far k = r → 0 ≤ D k) → TimesI p (fun a b => btw f a b m) far D r (k + 1) t) := fun h => HT.out.skip h
          obtain ⟨hb1, hb2⟩ := HBD.out k hk
          obtain ⟨x, hx⟩ : ∃ x, x = far k := ⟨_, rfl⟩
          have HX := Lib.hid hx
          rw [← hx] at f1 HSK
          clear hx
          obtain ⟨dk, hdk⟩ : ∃ z, z = D k := ⟨_, rfl⟩
          have HDK := Lib.hid hdk
          rw [← hdk] at d1 hb1 hb2 HSK
          clear hdk
          by_cases hxr : x = r
          · have b1 : ((x : Int) == (r : Int)) = true := by rw [hxr]; exact beq_self_eq_true _
            have HFK : Hid (far k = r) := HX.out.symm.trans hxr
            have HG0 := Lib.hid (HGP.out k hk HFK.out)
            clear hxr
            by_cases hneg : dk < 0
            · have l1 := row_range HG2.out
              go_wp2_with (refine wpList_load_mid rfl 24 _ rfl bg 0 rfl _ _ l1 Tryd.underlying24 rfl infoGraph ?_)
              clear l1
              refine (outer_any p ea m ec f k bs p (fun j => decide (far j < r)) true wr (rows_keep HE.out (HB0.out.trans (HB2.out.mono HB0.out.size))) HOK.out.m40 HOK.out.edge hp10 HS.out).mono ?_
              rintro e1 w4 ⟨rfl, hb4⟩
              have HS4 := Lib.hid (HS.out.keep hb4 HS.out.lt)
              have HD4 := Lib.hid (HD2.out.keep hb4 HD2.out.lt)
              have HV4 := Lib.hid (HV2.out.keep hb4 HV2.out.lt)
              have HG4 := Lib.hid (HG2.out.keep hb4 HG2.out.lt)
              have HB4 := Lib.hid (HB2.out.trans (hb4.mono HB2.out.size))
              clear hb4 HS HD2 HV2 HG2 HB2 g0 f1 d1
              rw [outN_in (HGR.out.own k)]
              have g0 := HG4.out.cell 0
              dsimp only [List.getElem?_cons_zero] at g0
              have d1 := HD4.out.cell hk
              rw [← HDK.out] at d1
              have hg4 : inS p (fun a b => btw f a b m) (fun j => decide (far j < r)) k ≤ 4000 := inS_le HGR.out hk
              have HIN : Hid (inS p (fun a b => btw f a b m) (fun j => decide (far j < r)) k = inS p (fun a b => btw f a b m) (fun j => decide (far j < r)) k) := rfl
              obtain ⟨g, hgg⟩ : ∃ g, g = inS p (fun a b => btw f a b m) (fun j => decide (far j < r)) k := ⟨_, rfl⟩
              have HIN : Hid (inS p (fun a b => btw f a b m) (fun j => decide (far j < r)) k = g) := hgg.symm
              have hg0 : 0 < g := by rw [hgg]; exact HG0.out
              rw [← hgg] at hg4 ⊢
              clear hgg
              obtain ⟨y, hy⟩ : ∃ y : Nat, dk = -(y : Int) := ⟨(-dk).toNat, by omega⟩
              subst hy
              have hy0 : 0 < y := by omega
              obtain ⟨hm1, hm2⟩ := HT.out.more HFK.out HDK.out.symm hy0 HIN.out hg0
              have HM1 := Lib.hid hm1
              have HM2 := Lib.hid hm2
              have hq1 : ((g : Int) - 1 - -(y : Int)).tdiv (g : Int) = (((y + g - 1) / g : Nat) : Int) := by
                rw [show (g : Int) - 1 - -(y : Int) = ((y + g - 1 : Nat) : Int) from by omega]
                exact Int.ofNat_tdiv _ _
              have hq2 : ((g : Int) - 1 + (y : Int)).tdiv (g : Int) = (((y + g - 1) / g : Nat) : Int) := by
                rw [show (g : Int) - 1 + (y : Int) = ((y + g - 1 : Nat) : Int) from by omega]
                exact Int.ofNat_tdiv _ _
              have hql : (y + g - 1) / g ≤ y + g - 1 := Nat.div_le_self _ _
              have g1 : ((g : Int) == 0) = false := by rw [beq_eq_false_iff_ne]; omega
              have g2 : ¬ g = 0 := by omega
              clear hm1 hm2
              generalize (y + g - 1) / g = q at *
              by_cases hlt : t < (q : Int)
              · have HT2 := Lib.hid (HM1.out (by omega))
                go_wp2_with fail
                go_roundw
                case rel => exact ⟨k + 1, (q : Int), by omega, rfl, by go_num, HT2.out, by omega, HS4.out, HD4.out, HV4.out, HG4.out, HB4.out⟩
                case measure => simp [intOf]; omega
              · have HT2 := Lib.hid (HM2.out (by omega))
                go_wp2_with fail
                go_roundw
                case rel => exact ⟨k + 1, t, by omega, rfl, by go_num, HT2.out, by omega, HS4.out, HD4.out, HV4.out, HG4.out, HB4.out⟩
                case measure => simp [intOf]; omega
            · have HT2 := Lib.hid (HSK.out fun _ => by omega)
              go_wp2_with fail
              go_roundw
              case rel => exact ⟨k + 1, t, by omega, rfl, by go_num, HT2.out, ht4, HS.out, HD2.out, HV2.out, HG2.out, HB2.out⟩
              case measure => simp [intOf]; omega
          · have b1 : ((x : Int) == (r : Int)) = false := by rw [beq_eq_false_iff_ne]; omega
            have HT2 := Lib.hid (HSK.out fun h => absurd h hxr)
            clear hxr
            go_wp2_with fail
            go_roundw
            case rel => exact ⟨k + 1, t, by omega, rfl, by go_num, HT2.out, ht4, HS.out, HD2.out, HV2.out, HG2.out, HB2.out⟩
            case measure => simp [intOf]; omega
        · obtain rfl : k = p := by omega
          have HDW : Hid (Vec wr bd k fun j => wrap64 (D j)) := HD2.out.congr fun j hj => by
            have := HBD.out j hj
            unfold wrap64; omega
          have l1 := row_range HG2.out
          go_wp2_with (refine wpList_load_mid rfl 24 _ rfl bg 0 rfl _ _ l1 Tryd.underlying24 rfl infoGraph ?_)
          clear l1
          refine (give_any k ea m ec f bd cd bs k (fun j => decide (far j < r)) D t w0 wr HE.out (HB0.out.trans (HB2.out.mono HB0.out.size)) hbd HOK.out.m40 HOK.out.edge HDW.out HS.out).mono ?_
          rintro e1 w4 ⟨⟨v4, rfl⟩, hv4, hc4⟩
          have HX : Hid (∃ t, Times k (fun a b => btw f a b m) far D r t ∧ Vec w4 bd k (fun j => wrap64 (fireZ k (fun a b => btw f a b m) D (fun j => decide (far j < r)) t j))) := ⟨t, HT.out.fin, hv4⟩
          have HY : Hid (Chg (fun b => b = bd) w w4) := (Chg.below (X := fun b => b = bd) HB2.out).trans hc4 fun b _ h => h
          clear hv4 hc4
          go_wp2_with fail
          exact hok HX.out HY.out
end Ch
end Go.Proofs.YtjikildiblchpaaDoor

/- WALK of the document's answer: edenref6.Reduced: what does not burn gives. Printed by gens/chdred.py. -/
namespace Go.Proofs.YtjikildiblchpaaDoor
set_option linter.unusedSimpArgs false
set_option linter.unusedVariables false
open Go.RowKit Go.Lib
namespace Ch
open Tld Mem Rt

set_option maxHeartbeats 8000000 in
set_option maxRecDepth 1000000 in
theorem dr3 (p a m : Nat) (ea : Option Addr) (ec : Nat) (f : Nat → Nat → Int) (D : Nat → Int) (bg bd cd : Nat) (w0 w : World) (hok' : GOk p m f) (ha : a < p) (HE : Hid (Mem.Rows w0 ea m 3 (fun i j => .int .i64 (f i j)))) (HB0 : Hid (Below w0.heap.size w0 w)) (hbd : w0.heap.size ≤ bd)
    (HG : Hid (Row w bg 24 [.int .i64 (p : Int), .slice ea m ec])) (hgd : bg ≠ bd) (HD : Hid (Vec w bd p D)) (hb : ∀ k, k < p → -9000000000000000000 ≤ D k ∧ D k ≤ 9000000000000000000) (hpos : ∀ k, k < p → k ≠ a → 0 ≤ D k)
    (c0 c1 c4 c5 c6 c8 c9 c10 c11 c12 c13 c14 c15 c16 c17 c18 c19 c20 c21 c22 c23 c24 c25 c26 c27 c28 c29 c30 c31 c32 c33 c34 c35 c36 c37 c38 c39 c40 c41 c42 c43 c44 c45 c46 c47 c48 c49 c50 c51 c52 c53 c54 c55 c56 c57 c58 c59 c60 c61 c62 c63 c64 c65 c66 c67 c68 c69 c70 c71 c72 c73 c74 c75 c76 c77 c78 c79 c80 c81 c82 c83 c84 c85 c86 c87 c88 c89 c90 c91 c92 c93 c94 c95 c96 c97 c98 c99 c100 c101 c102 c103 c104 c105 c106 c107 c108 c109 c110 c111 c112 c113 c114 c115 c116 c117 c118 c119 c120 c121 c122 c123 c124 c125 c126 c127 c128 c129 c130 c131 c132 c133 c134 c135 c136 c137 c138 c139 c140 c141 c142 c143 c144 c145 c146 c147 c148 c149 c150 c151 c152 c153 c154 c155 c156 c157 c158 c159 c160 c161 c162 c163 c164 c165 c166 c167 c168 c169 c170 c171 c172 c173 c174 c175 c176 c177 c178 c179 c180 c181 c182 c183 c184 c185 c186 c187 c188 c189 c190 c191 c192 c193 c194 c195 c196 c197 c198 c199 c200 c201 c202 c203 c204 c205 c206 c207 c208 c209 c210 c211 c212 c213 c214 c215 c216 : Value) (Q : Exit → Act → World → Prop)
    (hret : ∀ {u20 u21 u22 u23 u169 u170 u171 u172 u173 u174 u175 u176 u177 u178 u179 u180 u181 u182 u183 u184 u185 u186 u187 u188 u189 u190 u191 u192 u193 u194 u195 u196 u197 u198 u199 u200 u201 u202 u203 u204 u205 u206 u207 u208 u209 u210 u211 u212 u213 u214 u215 u216 : Value} {w' : World}, Reduced p (fun a b => btw f a b m) D a → Vec w' bd p D → Chg (fun b => b = bd) w w' → Q .ret ⟨#[c0, c1, .int .i64 (a : Int), .pointer (some ⟨bg, 0, none⟩), c4, c5, .slice (some ⟨bd, 0, none⟩) p cd, .slice (some ⟨bd, 0, none⟩) p cd, c8, c9, c10, c11, c12, c13, c14, c15, c16, c17, c18, c19, u20, u21, u22, u23, c24, c25, c26, c27, c28, c29, c30, c31, c32, c33, c34, c35, c36, c37, c38, c39, c40, c41, c42, c43, c44, c45, c46, c47, c48, c49, c50, c51, c52, c53, c54, c55, c56, c57, c58, c59, c60, c61, c62, c63, c64, c65, c66, c67, c68, c69, c70, c71, c72, c73, c74, c75, c76, c77, c78, c79, c80, c81, c82, c83, c84, c85, c86, c87, c88, c89, c90, c91, c92, c93, c94, c95, c96, c97, c98, c99, c100, c101, c102, c103, c104, c105, c106, c107, c108, c109, c110, c111, c112, c113, c114, c115, c116, c117, c118, c119, c120, c121, c122, c123, c124, c125, c126, c127, c128, c129, c130, c131, c132, c133, c134, c135, c136, c137, c138, c139, c140, c141, c142, c143, c144, c145, c146, c147, c148, c149, c150, c151, c152, c153, c154, c155, c156, c157, c158, c159, c160, c161, c162, c163, c164, c165, c166, c167, c168, u169, u170, u171, u172, u173, u174, u175, u176, u177, u178, u179, u180, u181, u182, u183, u184, u185, u186, u187, u188, u189, u190, u191, u192, u193, u194, u195, u196, u197, u198, u199, u200, u201, u202, u203, u204, u205, u206, u207, u208, u209, u210, u211, u212, u213, u214, u215, u216], []⟩ w')
    (hok : ∀ {u6 u20 u21 u22 u23 u169 u170 u171 u172 u173 u174 u175 u176 u177 u178 u179 u180 u181 u182 u183 u184 u185 u186 u187 u188 u189 u190 u191 u192 u193 u194 u195 u196 u197 u198 u199 u200 u201 u202 u203 u204 u205 u206 u207 u208 u209 u210 u211 u212 u213 u214 u215 u216 : Value} {w' : World}, (∃ (S : Nat → Bool) (t : Int) (x : Nat), S a = false ∧ x < p ∧ S x = true ∧ Often p (fun a b => btw f a b m) D S t ∧ Vec w' bd p (fun k => wrap64 (fireZ p (fun a b => btw f a b m) D S t k))) → Chg (fun b => b = bd) w w' → Q .normal ⟨#[c0, c1, .int .i64 (a : Int), .pointer (some ⟨bg, 0, none⟩), c4, c5, u6, .slice (some ⟨bd, 0, none⟩) p cd, c8, c9, c10, c11, c12, c13, c14, c15, c16, c17, c18, c19, u20, u21, u22, u23, c24, c25, c26, c27, c28, c29, c30, c31, c32, c33, c34, c35, c36, c37, c38, c39, c40, c41, c42, c43, c44, c45, c46, c47, c48, c49, c50, c51, c52, c53, c54, c55, c56, c57, c58, c59, c60, c61, c62, c63, c64, c65, c66, c67, c68, c69, c70, c71, c72, c73, c74, c75, c76, c77, c78, c79, c80, c81, c82, c83, c84, c85, c86, c87, c88, c89, c90, c91, c92, c93, c94, c95, c96, c97, c98, c99, c100, c101, c102, c103, c104, c105, c106, c107, c108, c109, c110, c111, c112, c113, c114, c115, c116, c117, c118, c119, c120, c121, c122, c123, c124, c125, c126, c127, c128, c129, c130, c131, c132, c133, c134, c135, c136, c137, c138, c139, c140, c141, c142, c143, c144, c145, c146, c147, c148, c149, c150, c151, c152, c153, c154, c155, c156, c157, c158, c159, c160, c161, c162, c163, c164, c165, c166, c167, c168, u169, u170, u171, u172, u173, u174, u175, u176, u177, u178, u179, u180, u181, u182, u183, u184, u185, u186, u187, u188, u189, u190, u191, u192, u193, u194, u195, u196, u197, u198, u199, u200, u201, u202, u203, u204, u205, u206, u207, u208, u209, u210, u211, u212, u213, u214, u215, u216], []⟩ w')
    : Code.wp Tryd.prog ((Pc.frm 38 (Tryd.f28.body.getD .skip)).getD .skip) Q ⟨#[c0, c1, .int .i64 (a : Int), .pointer (some ⟨bg, 0, none⟩), c4, c5, c6, .slice (some ⟨bd, 0, none⟩) p cd, c8, c9, c10, c11, c12, c13, c14, c15, c16, c17, c18, c19, c20, c21, c22, c23, c24, c25, c26, c27, c28, c29, c30, c31, c32, c33, c34, c35, c36, c37, c38, c39, c40, c41, c42, c43, c44, c45, c46, c47, c48, c49, c50, c51, c52, c53, c54, c55, c56, c57, c58, c59, c60, c61, c62, c63, c64, c65, c66, c67, c68, c69, c70, c71, c72, c73, c74, c75, c76, c77, c78, c79, c80, c81, c82, c83, c84, c85, c86, c87, c88, c89, c90, c91, c92, c93, c94, c95, c96, c97, c98, c99, c100, c101, c102, c103, c104, c105, c106, c107, c108, c109, c110, c111, c112, c113, c114, c115, c116, c117, c118, c119, c120, c121, c122, c123, c124, c125, c126, c127, c128, c129, c130, c131, c132, c133, c134, c135, c136, c137, c138, c139, c140, c141, c142, c143, c144, c145, c146, c147, c148, c149, c150, c151, c152, c153, c154, c155, c156, c157, c158, c159, c160, c161, c162, c163, c164, c165, c166, c167, c168, c169, c170, c171, c172, c173, c174, c175, c176, c177, c178, c179, c180, c181, c182, c183, c184, c185, c186, c187, c188, c189, c190, c191, c192, c193, c194, c195, c196, c197, c198, c199, c200, c201, c202, c203, c204, c205, c206, c207, c208, c209, c210, c211, c212, c213, c214, c215, c216], []⟩ w := by
  conv => arg 2; whnf
  have hp10 := hok'.p10
  have hP1 : p ≤ maxLen := by unfold maxLen; omega
  have HOK := Lib.hid hok'
  have HGR := Lib.hid (gr_of hok')
  have HBD := Lib.hid hb
  have HPOS := Lib.hid hpos
  have HIS := Lib.hid (HD.out.is hP1)
  clear hb hok' hpos
  have l1 := row_range HG.out
  go_wp2_with (refine wpList_load_mid rfl 24 _ rfl bg 0 rfl _ _ l1 Tryd.underlying24 rfl infoGraph ?_)
  clear l1
  refine (burns_any p ea m ec f _ cd (lstF p D) a w (rows_keep HE.out HB0.out) HOK.out HIS.out ha).mono ?_
  rintro e1 w1 ⟨bs, F, rfl, hbs, hF, hbn, hlg, hb1⟩
  have HBN : Hid (Burn p (fun a b => btw f a b m) D a (fun j => !F j)) := ⟨hbn.at0, fun S hS => hbn.none S ⟨hS.no, fun k hk hs => by rw [lstF_get hk]; exact hS.can k hk hs⟩⟩
  have HLG : Hid (∀ k, k < p → F k = true → (outS p (fun a b => btw f a b m) F k : Int) ≤ D k) := fun k hk hs => by
    have := hlg k hk hs
    rw [lstF_get hk] at this
    exact this
  have HFA : Hid (F a = false) := by
    have h := hbn.at0
    show _ = _
    simpa using h
  have HS := Lib.hid hF
  have HG1 := Lib.hid (HG.out.keep hb1 HG.out.lt)
  have HD1 := Lib.hid (HD.out.keep hb1 HD.out.lt)
  have HB1 := Lib.hid hb1
  have hbsd : bs ≠ bd := by have := HD.out.lt; omega
  clear hF hbn hlg hb1 hbs HIS
  go_wp2_with fail
  go_loopw [21, 22] (fun y z wr => ∃ (k : Nat) (t : Int), k ≤ p ∧ y = .int .i64 t ∧ z = .int .i64 (k : Int) ∧ OftenI p (fun a b => btw f a b m) D F k t ∧ t ≤ 9000000000000000000 ∧ (0 ≤ t → ∃ j, j < p ∧ F j = true) ∧ VecB wr bs p F ∧ Vec wr bd p D ∧ Row wr bg 24 [.int .i64 (p : Int), .slice ea m ec] ∧ Below w.heap.size w wr) (fun _ z _ => p - (intOf z).toNat)
  case atStart => exact ⟨0, -1, Nat.zero_le _, rfl, rfl, often_start, by omega, fun h => absurd h (by decide), HS.out, HD1.out, HG1.out, HB1.out⟩
  case round =>
    clear HS HD1 HG1 HB1
    obtain ⟨k, t, hkP, rfl, rfl, ho, ht9, hex, hs, hd, hg, hb⟩ := hrel
    have HEX := Lib.hid hex
    have HO := Lib.hid ho
    have ht0 : -1 ≤ t := by rcases ho with h | h <;> omega
    have HS := Lib.hid hs
    have HD2 := Lib.hid hd
    have HG2 := Lib.hid hg
    have HB2 := Lib.hid hb
    have g0 := hg.cell 0
    dsimp only [List.getElem?_cons_zero] at g0
    clear ho hs hd hg hb hex
    by_cases hk : k < p
    · have hk2 : (k : Int) < (p : Int) := by omega
      have s1 := HS.out.cell hk
      have HZ : Hid (∀ j, j < k → F j = true → 0 ≤ D j) := fun j hj hs => by have := HLG.out j (by omega) hs; omega
      have HLK : Hid (F k = true → (outS p (fun a b => btw f a b m) F k : Int) ≤ D k) := fun h => HLG.out k hk h
      have HSKF : Hid (F k = false → OftenI p (fun a b => btw f a b m) D F (k + 1) t) := fun h => often_skip HO.out (fun hs => by rw [h] at hs; cases hs) (fun hs => by rw [h] at hs; cases hs)
      obtain ⟨sk, hsk⟩ : ∃ b, b = F k := ⟨_, rfl⟩
      have HSK := Lib.hid hsk
      rw [← hsk] at s1
      clear hsk
      cases sk
      case false =>
        have HO2 := Lib.hid (HSKF.out HSK.out.symm)
        go_wp2_with fail
        go_roundw
        case rel => exact ⟨k + 1, t, by omega, rfl, by go_num, HO2.out, ht9, HEX.out, HS.out, HD2.out, HG2.out, HB2.out⟩
        case measure => simp [intOf]; omega
      case true =>
        have l1 := row_range HG2.out
        go_wp2_with (refine wpList_load_mid rfl 24 _ rfl bg 0 rfl _ _ l1 Tryd.underlying24 rfl infoGraph ?_)
        clear l1
        refine (outer_any p ea m ec f k bs p F false wr (rows_keep HE.out (HB0.out.trans (HB2.out.mono HB0.out.size))) HOK.out.m40 HOK.out.edge hp10 HS.out).mono ?_
        rintro e1 w4 ⟨rfl, hb4⟩
        have HS4 := Lib.hid (HS.out.keep hb4 HS.out.lt)
        have HD4 := Lib.hid (HD2.out.keep hb4 HD2.out.lt)
        have HG4 := Lib.hid (HG2.out.keep hb4 HG2.out.lt)
        have HB4 := Lib.hid (HB2.out.trans (hb4.mono HB2.out.size))
        clear hb4 HS HD2 HG2 HB2 g0 s1
        rw [outN_out (HGR.out.own k)]
        have d1 := HD4.out.cell hk
        have hld := HLK.out HSK.out.symm
        have hn4 : outS p (fun a b => btw f a b m) F k ≤ 4000 := outS_le HGR.out hk
        have htk := (HBD.out k hk).2
        have HZK : Hid (outS p (fun a b => btw f a b m) F k = 0 → OftenI p (fun a b => btw f a b m) D F (k + 1) t) := fun h => often_skip HO.out (fun _ => h) (fun hs => by have := HLK.out hs; omega)
        obtain ⟨d, hd⟩ : ∃ d : Nat, D k = (d : Int) := ⟨(D k).toNat, by omega⟩
        have HDK := Lib.hid hd
        rw [hd] at d1 hld htk
        clear hd
        obtain ⟨n, hn⟩ : ∃ n, n = outS p (fun a b => btw f a b m) F k := ⟨_, rfl⟩
        have HON : Hid (outS p (fun a b => btw f a b m) F k = n) := hn.symm
        rw [← hn] at hld hn4 HZK ⊢
        clear hn
        by_cases h0 : n = 0
        · have HO2 := Lib.hid (HZK.out h0)
          have g1 : ¬ (0 : Int) < (n : Int) := by omega
          clear h0
          go_wp2_with fail
          go_roundw
          case rel => exact ⟨k + 1, t, by omega, rfl, by go_num, HO2.out, ht9, HEX.out, HS4.out, HD4.out, HG4.out, HB4.out⟩
          case measure => simp [intOf]; omega
        · have HNW : Hid ((t < 0 ∨ ((d / n : Nat) : Int) < t) → OftenI p (fun a b => btw f a b m) D F (k + 1) ((d / n : Nat) : Int)) := fun h => often_new HO.out HON.out HDK.out (by omega) (by omega) h HZ.out
          have HOD : Hid (0 ≤ t → t ≤ ((d / n : Nat) : Int) → OftenI p (fun a b => btw f a b m) D F (k + 1) t) := fun h1 h2 => often_old HO.out HON.out HDK.out (by omega) h1 h2
          have hq : (d : Int).tdiv (n : Int) = ((d / n : Nat) : Int) := Int.ofNat_tdiv _ _
          have hqd : d / n ≤ d := Nat.div_le_self _ _
          generalize d / n = q at *
          have g1 : (0 : Int) < (n : Int) := by omega
          have g2 : ((n : Int) == 0) = false := by rw [beq_eq_false_iff_ne]; omega
          have g3 : ¬ n = 0 := h0
          by_cases c1 : t < 0
          · have HO2 := Lib.hid (HNW.out (.inl c1))
            go_wp2_with fail
            go_roundw
            case rel => exact ⟨k + 1, (q : Int), by omega, rfl, by go_num, HO2.out, by omega, fun _ => ⟨k, hk, HSK.out.symm⟩, HS4.out, HD4.out, HG4.out, HB4.out⟩
            case measure => simp [intOf]; omega
          by_cases c2 : (q : Int) < t
          · have HO2 := Lib.hid (HNW.out (.inr c2))
            go_wp2_with fail
            go_roundw
            case rel => exact ⟨k + 1, (q : Int), by omega, rfl, by go_num, HO2.out, by omega, fun _ => ⟨k, hk, HSK.out.symm⟩, HS4.out, HD4.out, HG4.out, HB4.out⟩
            case measure => simp [intOf]; omega
          · have HO2 := Lib.hid (HOD.out (by omega) (by omega))
            go_wp2_with fail
            go_roundw
            case rel => exact ⟨k + 1, t, by omega, rfl, by go_num, HO2.out, ht9, HEX.out, HS4.out, HD4.out, HG4.out, HB4.out⟩
            case measure => simp [intOf]; omega
    · obtain rfl : k = p := by omega
      by_cases hx : ∃ x, x < k ∧ F x = true
      · obtain ⟨x, hx, hFx⟩ := hx
        have HOF : Hid (Often k (fun a b => btw f a b m) D F t) := by
          rcases HO.out with ⟨h1, h2⟩ | ⟨h1, h2⟩
          · obtain ⟨j, hj, hsj, hp⟩ := out_pos HGR.out (S := F) ha HFA.out hx hFx
            have := h2 j hj hsj
            omega
          · exact ⟨h2, h1⟩
        have ht1 : ¬ t < 0 := by have := HOF.out.pos; omega
        have HFX := Lib.hid hFx
        clear hFx
        have HDW : Hid (Vec wr bd k fun j => wrap64 (D j)) := HD2.out.congr fun j hj => by
          have := HBD.out j hj
          unfold wrap64; omega
        have l1 := row_range HG2.out
        go_wp2_with (refine wpList_load_mid rfl 24 _ rfl bg 0 rfl _ _ l1 Tryd.underlying24 rfl infoGraph ?_)
        clear l1
        refine (give_any k ea m ec f bd cd bs k F D t w0 wr HE.out (HB0.out.trans (HB2.out.mono HB0.out.size)) hbd HOK.out.m40 HOK.out.edge HDW.out HS.out).mono ?_
        rintro e1 w4 ⟨⟨v4, rfl⟩, hv4, hc4⟩
        have HX : Hid (∃ (S : Nat → Bool) (t : Int) (x : Nat), S a = false ∧ x < k ∧ S x = true ∧ Often k (fun a b => btw f a b m) D S t ∧ Vec w4 bd k (fun j => wrap64 (fireZ k (fun a b => btw f a b m) D S t j))) := ⟨F, t, x, HFA.out, hx, HFX.out, HOF.out, hv4⟩
        have HY : Hid (Chg (fun b => b = bd) w w4) := (Chg.below (X := fun b => b = bd) HB2.out).trans hc4 fun b _ h => h
        clear hv4 hc4
        go_wp2_with fail
        exact hok HX.out HY.out
      · have hno : ∀ j, j < k → F j = false := fun j hj => by
          cases h : F j
          · rfl
          · exact absurd ⟨j, hj, h⟩ hx
        have HRD : Hid (Reduced k (fun a b => btw f a b m) D a) := HBN.out.all HPOS.out fun j hj => by rw [hno j hj]; rfl
        have ht1 : t < 0 := Int.not_le.1 fun h => hx (HEX.out h)
        have HY : Hid (Chg (fun b => b = bd) w wr) := Chg.below HB2.out
        clear hno hx
        go_wp2_with fail
        exact hret HRD.out HD2.out HY.out
end Ch
end Go.Proofs.YtjikildiblchpaaDoor

/- WALK of the document's answer: edenref6.Reduced: the whole. Printed by gens/chdred.py. -/
namespace Go.Proofs.YtjikildiblchpaaDoor
set_option linter.unusedSimpArgs false
set_option linter.unusedVariables false
open Go.RowKit Go.Lib
namespace Ch
open Tld Mem Rt

set_option maxHeartbeats 16000000 in
set_option maxRecDepth 1000000 in
theorem rreduced_any (p a m : Nat) (ea : Option Addr) (ec : Nat) (f : Nat → Nat → Int) (da : Option Addr) (dc : Nat) (zs : List Int) (w : World) (hE : Mem.Rows w ea m 3 (fun i j => .int .i64 (f i j))) (hok : GOk p m f) (ha : a < p) (hD : Ints.Is w da p zs) (hz : ∀ k, k < p → -1100 ≤ zs.getD k 0 ∧ zs.getD k 0 ≤ 1100) :
    Calls Tryd.prog 28 #[.agg #[.int .i64 (p : Int), .slice ea m ec], .slice da p dc, .int .i64 (a : Int)] w fun e w' => ∃ (b c : Nat) (R : Nat → Int), e = .returned (.slice (some ⟨b, 0, none⟩) p c) ∧ Vec w' b p R ∧ Eqv p (fun a b => btw f a b m) (fun k => zs.getD k 0) R ∧ Reduced p (fun a b => btw f a b m) R a ∧ Below w.heap.size w w' := by
  obtain ⟨i0, hI0, hz0, hz1, hz2⟩ := info_parts infoIntN
  have hp10 := hok.p10
  have hp0 : 0 < p := hok.p1
  have hm40 := hok.m40
  have hG := gr_of hok
  obtain ⟨far, hfp, hfo⟩ := exists_far hG ha
  have HGR := Lib.hid hG
  have HOK := Lib.hid hok
  have HE := Lib.hid hE
  have HDI := Lib.hid hD
  have HZ := Lib.hid hz
  have HSM := Lib.hid (sum_small hz).2
  have HFP := Lib.hid hfp
  have HFO := Lib.hid hfo
  have HBM : Hid (Bm p f far (updZ (fun _ => 100) a 0) 0 0) := Bm.start (m := m) hfo hfp hp10 ha
  clear hG hok hE hD hz hfp hfo
  go_enter Tryd.func28, Tryd.ntmps28
  go_upto_region 2 with fail
  have hR : Row (w.alloc (.cells #[.int .i64 (p : Int), .slice ea m ec] 24)) w.heap.size 24 [.int .i64 (p : Int), .slice ea m ec] := row_alloc w _ _
  have hB : Below w.heap.size w (w.alloc (.cells #[.int .i64 (p : Int), .slice ea m ec] 24)) := (Below.refl _ _).alloc (Nat.le_refl _) _
  have HG := Lib.hid hR
  have HB := Lib.hid hB
  clear hR hB
  generalize w.alloc (.cells #[.int .i64 (p : Int), .slice ea m ec] 24) = w1 at *
  have HDI1 := Lib.hid (HDI.out.keep HB.out)
  go_upto_region 3 with (at_builtin; refine wpList_app_all rfl _ _ rfl _ _ _ _ rfl rfl HDI1.out hp0 (by omega) ?_; intro bd cd w2 hbd hvd hb2)
  have HG2 := Lib.hid (HG.out.keep hb2 HG.out.lt)
  have HB2 := Lib.hid (HB.out.trans (hb2.mono HB.out.size))
  have HD2 := Lib.hid hvd
  have hbd0 : w.heap.size ≤ bd := Nat.le_trans HB.out.size hbd
  have hgd : w.heap.size ≠ bd := by have := HG.out.lt; omega
  have g0 := HG2.out.cell 0
  dsimp only [List.getElem?_cons_zero] at g0
  clear hb2 hvd hbd HG HB HDI1
  go_upto_region 4 with (refine Ops.wpList_make rfl 25 _ _ rfl 3 i0 (.int .i64 0) Tryd.underlying25 hI0 hz0 rfl hz1 (by rw [hz2]; decide) p rfl rfl (by omega) ?_; intro bf w3 hbf hb3 hvf)
  have HG3 := Lib.hid (HG2.out.keep hb3 HG2.out.lt)
  have HD3 := Lib.hid (HD2.out.keep hb3 HD2.out.lt)
  have HB3 := Lib.hid (HB2.out.trans (hb3.mono HB2.out.size))
  have HV3 := Lib.hid (row_made hvf)
  have hbf0 : w.heap.size ≤ bf := Nat.le_trans HB2.out.size hbf
  have hne : bf ≠ bd := by have := HD2.out.lt; omega
  have hgf : w.heap.size ≠ bf := by have := HG2.out.lt; omega
  clear hb3 hvf hbf HG2 HD2 HB2 g0
  go_wp2_with fail
  go_loopw [9] (fun z wr => ∃ k : Nat, k ≤ p ∧ z = .int .i64 (k : Int) ∧ Vec wr bf p (fun j => if j < k then 100 else 0) ∧ Only bf w3 wr) (fun z _ => p - (intOf z).toNat)
  case atStart => exact ⟨0, Nat.zero_le _, rfl, HV3.out.congr fun j hj => by rw [if_neg (Nat.not_lt_zero _)], Only.refl _ _⟩
  case round =>
    clear HV3
    obtain ⟨k, hkP, rfl, hv, ho⟩ := hrel
    have HV := Lib.hid hv
    have HO := Lib.hid ho
    have HG := Lib.hid (HG3.out.other ho hgf)
    have g0 := HG.out.cell 0
    dsimp only [List.getElem?_cons_zero] at g0
    clear hv ho
    by_cases hk : k < p
    · have hk2 : (k : Int) < (p : Int) := by omega
      have c1 := HV.out.cell hk
      have z1 := HV.out.frozen k
      have o1 := only_setCell wr bf k (.int .i64 100)
      have HO2 := Lib.hid (HO.out.trans o1)
      have HV2 := Lib.hid ((HV.out.set hk 100).congr (G := fun j => if j < k + 1 then 100 else 0) fun j hj => by
        by_cases e : j = k
        · rw [e, upd_at, if_pos (by omega)]
        · rw [upd_no e]
          by_cases e2 : j < k
          · rw [if_pos e2, if_pos (by omega)]
          · rw [if_neg e2, if_neg (by omega)])
      clear o1
      go_wp2_with fail
      go_roundw
      case rel => exact ⟨k + 1, by omega, by go_num, HV2.out, HO2.out⟩
      case measure => simp [intOf]; omega
    · obtain rfl : k = p := by omega
      obtain ⟨p, rfl⟩ : ∃ q, q = k := ⟨_, rfl⟩
      have ha2 : (a : Int) < (p : Int) := by omega
      have c1 := HV.out.cell ha
      have z1 := HV.out.frozen a
      have o1 := only_setCell wr bf a (.int .i64 0)
      have HO4 := Lib.hid (HO.out.trans o1)
      have HV4 := Lib.hid ((HV.out.set ha 0).congr (G := updZ (fun _ => 100) a 0) fun j hj => by
        by_cases e : j = a
        · rw [e, upd_at, updZ_at]
        · rw [upd_no e, updZ_no e, if_pos hj])
      clear o1
      go_upto_region 9 with fail
      clear c1 z1 g0 HV HO HG
      generalize wr.setCell ⟨bf, a, none⟩ (.int .i64 0) = w4 at *
      have HG4 := Lib.hid (HG3.out.other HO4.out hgf)
      have HD4 := Lib.hid (HD3.out.other HO4.out (Ne.symm hne))
      have HB4 := Lib.hid (HB3.out.trans (HO4.out.below hbf0))
      clear HG3 HD3 HB3 HO4
      go_wp2_with fail
      go_loopw [10] (fun z wr => ∃ (n : Nat) (fz : Nat → Int), n ≤ p ∧ z = .int .i64 (n : Int) ∧ Bm p f far fz n 0 ∧ Vec wr bf p fz ∧ Vec wr bd p (fun k => zs.getD k 0) ∧ Row wr w.heap.size 24 [.int .i64 (p : Int), .slice ea m ec] ∧ Below w.heap.size w wr) (fun z _ => p - (intOf z).toNat)
      case atStart => exact ⟨0, _, Nat.zero_le _, rfl, HBM.out, HV4.out, HD4.out, HG4.out, HB4.out⟩
      case round =>
        clear HV4 HD4 HG4 HB4
        obtain ⟨n, fz, hnp, rfl, hbm, hv, hd, hg, hb⟩ := hrel
        have HBN := Lib.hid hbm
        have HV := Lib.hid hv
        have HD := Lib.hid hd
        have HG := Lib.hid hg
        have HB := Lib.hid hb
        have g0 := hg.cell 0
        dsimp only [List.getElem?_cons_zero] at g0
        clear hbm hv hd hg hb
        by_cases hn : n < p
        · have hn2 : (n : Int) < (p : Int) := by omega
          go_wp2_with fail
          clear g0
          go_loopw [11] (fun z wr => ∃ (i : Nat) (fz : Nat → Int), i ≤ m ∧ z = .int .i64 (i : Int) ∧ Bm p f far fz n i ∧ Vec wr bf p fz ∧ Vec wr bd p (fun k => zs.getD k 0) ∧ Row wr w.heap.size 24 [.int .i64 (p : Int), .slice ea m ec] ∧ Below w.heap.size w wr) (fun z _ => m - (intOf z).toNat)
          case atStart => exact ⟨0, fz, Nat.zero_le _, rfl, HBN.out, HV.out, HD.out, HG.out, HB.out⟩
          case round =>
            clear HBN HV HD HG HB
            obtain ⟨i, fz, him, rfl, hbm, hv, hd, hg, hb⟩ := hrel
            have HBN := Lib.hid hbm
            have HV := Lib.hid hv
            have HD := Lib.hid hd
            have HG := Lib.hid hg
            have HB := Lib.hid hb
            have g1 := hg.cell 1
            dsimp only [List.getElem?_cons_succ, List.getElem?_cons_zero] at g1
            clear hbm hv hd hg hb
            by_cases hi : i < m
            · have hi2 : (i : Int) < (m : Int) := by omega
              have HBE := Lib.hid (HBN.out.edge HFO.out HOK.out.edge hi)
              go_upto_if 52 with fail
              go_step
              go_step
              go_step
              apply_assumption
              refine wp_seq ?_
              refine wp_block ?_
              refine dr1 p i m ea ec f fz w.heap.size bf p w wr HE HB (HOK.out.edge i hi) hi HOK.out.m40 HG HV hgf (fun k hk => ⟨Int.le_trans (Int.natCast_nonneg _) (HBN.out.ge k hk), HBN.out.top k hk⟩) _ _ _ _ _ _ _ _ _ _ _ _ _ _ _ _ _ _ _ _ _ _ _ _ _ _ _ _ _ _ _ _ _ _ _ _ _ _ _ _ _ _ _ _ _ _ _ _ _ _ _ _ _ _ _ _ _ _ _ _ _ _ _ _ _ _ _ _ _ _ _ _ _ _ _ _ _ _ _ _ _ _ _ _ _ _ _ _ _ _ _ _ _ _ _ _ _ _ _ _ _ _ _ _ _ _ _ _ _ _ _ _ _ _ _ _ _ _ _ _ _ _ _ _ _ _ _ _ _ _ _ _ _ _ _ _ _ _ _ _ _ _ _ _ _ _ _ _ _ _ _ _ _ _ _ _ _ _ _ _ _ _ _ _ _ _ _ _ _ _ _ _ _ _ _ _ _ _ _ _ _ _ _ _ _ _ _ _ _ _ _ _ _ _ _ _ _ _ _ _ _ _ _ _ _ _ _ _ _ _ _ _ _ _ _ ?_
              intro u12 u55 u56 u57 u58 u59 u60 u61 u62 u63 u64 u65 u66 u67 u68 u69 u70 u71 u72 u73 u74 u75 u76 u77 u78 u79 u80 u81 u82 u83 u84 u85 u86 u87 u88 u89 u90 u91 u92 u93 u94 u95 u96 u97 u98 u99 u100 u101 u102 u103 w6 hv6 hc6
              have HV6 := Lib.hid hv6
              have HD6 := Lib.hid (vec_chg HD.out hc6 (Ne.symm hne))
              have HG6 : Hid (Row w6 w.heap.size 24 [.int .i64 (p : Int), .slice ea m ec]) := row_chg HG.out hc6 hgf
              have HB6 : Hid (Below w.heap.size w w6) := ⟨hc6.os.trans HB.out.os, hc6.tape.trans HB.out.tape, hc6.output.trans HB.out.output, Nat.le_trans HB.out.size hc6.size, fun k hk => (hc6.block k (Nat.lt_of_lt_of_le hk HB.out.size) (by omega)).trans (HB.out.block k hk)⟩
              clear hv6 hc6 HV HD HG HB HBN g1
              go_wp2_with fail
              go_roundw
              case rel => exact ⟨i + 1, _, by omega, by go_num, HBE.out, HV6.out, HD6.out, HG6.out, HB6.out⟩
              case measure => simp [intOf]; omega
            · obtain rfl : i = m := by omega
              have HBE := Lib.hid (HBN.out.round HFO.out HOK.out.edge)
              go_wp2_with fail
              go_roundw
              case rel => exact ⟨n + 1, fz, by omega, by go_num, HBE.out, HV.out, HD.out, HG.out, HB.out⟩
              case measure => simp [intOf]; omega
        · obtain rfl : n = p := by omega
          obtain ⟨p, rfl⟩ : ∃ q, q = n := ⟨_, rfl⟩
          have HV5 : Hid (Vec wr bf p fun k => (far k : Int)) := HV.out.congr fun k hk => HBN.out.fin HFP.out k hk
          obtain ⟨D0, hD0⟩ : ∃ D, D = fun k => zs.getD k 0 := ⟨_, rfl⟩
          have HDE := Lib.hid hD0
          rw [← hD0] at HD HSM
          have HP1 : Hid (P1 p (fun a b => btw f a b m) far D0 p D0 0 0) := P1.start (by rw [hD0]; exact HZ.out) fun k hk => Nat.le_of_lt (HFP.out k hk)
          clear hD0
          go_wp2_with fail
          go_loopw [13] (fun z wr => ∃ (r : Nat) (D : Nat → Int) (s d : Nat), r ≤ p ∧ z = .int .i64 (r : Int) ∧ P1 p (fun a b => btw f a b m) far D0 r D s d ∧ Vec wr bd p D ∧ Vec wr bf p (fun k => (far k : Int)) ∧ Row wr w.heap.size 24 [.int .i64 (p : Int), .slice ea m ec] ∧ Below w.heap.size w wr) (fun z _ => (intOf z).toNat)
          case atStart => exact ⟨p, D0, 0, 0, Nat.le_refl _, rfl, HP1.out, HD.out, HV5.out, HG.out, HB.out⟩
          case round =>
            clear HP1 HD HV5 HG HB g0 HV HBN
            obtain ⟨r, D, s, d, hrm, rfl, hp, hd, hv, hg, hb⟩ := hrel
            have HP1 := Lib.hid hp
            have HD := Lib.hid hd
            have HV := Lib.hid hv
            have HG := Lib.hid hg
            have HB := Lib.hid hb
            clear hp hd hv hg hb
            by_cases hr : 0 < r
            · have hr2 : (1 : Int) ≤ (r : Int) := by omega
              go_upto_if 107 with fail
              go_step
              go_step
              go_step
              apply_assumption
              refine wp_seq ?_
              refine wp_block ?_
              refine dr2 p r m ea ec f far D w.heap.size bd cd bf p a w wr HOK.out HFO.out hr (by omega) HFP.out HE HB hbd0 hne HG hgd HD HV (HP1.out.bound HGR.out HFO.out ha) _ _ _ _ _ _ _ _ _ _ _ _ _ _ _ _ _ _ _ _ _ _ _ _ _ _ _ _ _ _ _ _ _ _ _ _ _ _ _ _ _ _ _ _ _ _ _ _ _ _ _ _ _ _ _ _ _ _ _ _ _ _ _ _ _ _ _ _ _ _ _ _ _ _ _ _ _ _ _ _ _ _ _ _ _ _ _ _ _ _ _ _ _ _ _ _ _ _ _ _ _ _ _ _ _ _ _ _ _ _ _ _ _ _ _ _ _ _ _ _ _ _ _ _ _ _ _ _ _ _ _ _ _ _ _ _ _ _ _ _ _ _ _ _ _ _ _ _ _ _ _ _ _ _ _ _ _ _ _ _ _ _ _ _ _ _ _ _ _ _ _ _ _ _ _ _ _ _ _ _ _ _ _ _ _ _ _ _ _ _ _ _ _ _ _ _ _ _ _ _ _ _ _ _ _ _ _ _ _ _ _ _ _ _ ?_
              intro u14 u15 u16 u17 u18 u19 u110 u111 u112 u113 u114 u115 u116 u117 u118 u119 u120 u121 u122 u123 u124 u125 u126 u127 u128 u129 u130 u131 u132 u133 u134 u135 u136 u137 u138 u139 u140 u141 u142 u143 u144 u145 u146 u147 u148 u149 u150 u151 u152 u153 u154 u155 u156 u157 u158 u159 u160 u161 u162 u163 u164 u165 u166 u167 u168 w6 hX hc6
              obtain ⟨t, ht, hv6⟩ := hX
              obtain ⟨r, rfl⟩ : ∃ q, r = q + 1 := ⟨r - 1, by omega⟩
              obtain ⟨s2, d2, hp2⟩ := HP1.out.step HGR.out HFO.out ht
              have HP2 := Lib.hid hp2
              have hbn := hp2.bound HGR.out HFO.out ha
              have HD6 := Lib.hid (hv6.congr (G := fireZ p (fun a b => btw f a b m) D (fun j => decide (far j < r + 1)) t) fun k hk => by
                have := hbn k hk
                unfold wrap64; omega)
              have HV6 : Hid (Vec w6 bf p fun k => (far k : Int)) := vec_chg HV.out hc6 hne
              have HG6 : Hid (Row w6 w.heap.size 24 [.int .i64 (p : Int), .slice ea m ec]) := row_chg HG.out hc6 hgd
              have HB6 : Hid (Below w.heap.size w w6) := ⟨hc6.os.trans HB.out.os, hc6.tape.trans HB.out.tape, hc6.output.trans HB.out.output, Nat.le_trans HB.out.size hc6.size, fun k hk => (hc6.block k (Nat.lt_of_lt_of_le hk HB.out.size) (by omega)).trans (HB.out.block k hk)⟩
              have hr3 : ((r + 1 : Nat) : Int) - 1 = (r : Int) := by omega
              clear hp2 hbn hv6 hc6 ht HD HV HG HB HP1
              go_wp2_with fail
              go_roundw
              case rel => exact ⟨r, _, s2, d2, by omega, by go_num, HP2.out, HD6.out, HV6.out, HG6.out, HB6.out⟩
              case measure => simp [intOf]
            · obtain rfl : r = 0 := by omega
              obtain ⟨hq1, hq2, hq3⟩ := HP1.out.fin HGR.out HFO.out ha
              have HEQ := Lib.hid hq1
              have HPOS := Lib.hid hq2
              have HRG := Lib.hid hq3
              have HS1 : Hid (sumZ D p ≤ 11000) := by
                have h1 := hq1.sum HGR.out.sym
                have h2 := HSM.out
                show _ ≤ _
                rw [h1]; omega
              obtain ⟨bnd, hbnd⟩ := Run.ends HGR.out D ha
              have HBND := Lib.hid hbnd
              have HR0 : Hid (Run p (fun a b => btw f a b m) D a fun _ => 0) := run_start HPOS.out
              clear hq1 hq2 hq3 hbnd HP1 HV
              go_wp2_with fail
              go_loopg [20] ((bnd - sumZ (fun _ => 0) p).toNat) (fun gg z wr => ∃ (σ : Nat → Int), Run p (fun a b => btw f a b m) D a σ ∧ Vec wr bd p (fun k => D k - lap p (fun a b => btw f a b m) σ k) ∧ Row wr w.heap.size 24 [.int .i64 (p : Int), .slice ea m ec] ∧ Below w.heap.size w wr ∧ gg = (bnd - sumZ σ p).toNat)
              case atStart => exact ⟨fun _ => 0, HR0.out, HD.out.congr fun k hk => by rw [lap_zero]; omega, HG.out, HB.out, rfl⟩
              case round =>
                clear HR0 HD HG HB
                obtain ⟨σ, hr, hd, hg, hb, hgk⟩ := hrel
                have HR := Lib.hid hr
                have HD := Lib.hid hd
                have HG := Lib.hid hg
                have HB := Lib.hid hb
                have HGK := Lib.hid hgk
                clear hr hd hg hb hgk
                refine wp_block ?_
                refine dr3 p a m ea ec f (fun k => D k - lap p (fun a b => btw f a b m) σ k) w.heap.size bd cd w wr HOK.out ha HE HB hbd0 HG hgd HD (fun k hk => HR.out.bound HGR.out ha HS1.out HRG.out hk) (fun k hk hne => HR.out.left k hk hne) _ _ _ _ _ _ _ _ _ _ _ _ _ _ _ _ _ _ _ _ _ _ _ _ _ _ _ _ _ _ _ _ _ _ _ _ _ _ _ _ _ _ _ _ _ _ _ _ _ _ _ _ _ _ _ _ _ _ _ _ _ _ _ _ _ _ _ _ _ _ _ _ _ _ _ _ _ _ _ _ _ _ _ _ _ _ _ _ _ _ _ _ _ _ _ _ _ _ _ _ _ _ _ _ _ _ _ _ _ _ _ _ _ _ _ _ _ _ _ _ _ _ _ _ _ _ _ _ _ _ _ _ _ _ _ _ _ _ _ _ _ _ _ _ _ _ _ _ _ _ _ _ _ _ _ _ _ _ _ _ _ _ _ _ _ _ _ _ _ _ _ _ _ _ _ _ _ _ _ _ _ _ _ _ _ _ _ _ _ _ _ _ _ _ _ _ _ _ _ _ _ _ _ _ _ _ _ _ _ _ _ _ _ _ _ ?_ ?_
                · intro u20 u21 u22 u23 u169 u170 u171 u172 u173 u174 u175 u176 u177 u178 u179 u180 u181 u182 u183 u184 u185 u186 u187 u188 u189 u190 u191 u192 u193 u194 u195 u196 u197 u198 u199 u200 u201 u202 u203 u204 u205 u206 u207 u208 u209 u210 u211 u212 u213 u214 u215 u216 w6 hred hv6 hc6
                  have HX : Hid (Reduced p (fun a b => btw f a b m) (fun k => D k - lap p (fun a b => btw f a b m) σ k) a) := hred
                  have HV6 := Lib.hid hv6
                  have HB6 : Hid (Below w.heap.size w w6) := ⟨hc6.os.trans HB.out.os, hc6.tape.trans HB.out.tape, hc6.output.trans HB.out.output, Nat.le_trans HB.out.size hc6.size, fun k hk => (hc6.block k (Nat.lt_of_lt_of_le hk HB.out.size) (by omega)).trans (HB.out.block k hk)⟩
                  have HE2 : Hid (Eqv p (fun a b => btw f a b m) (fun k => zs.getD k 0) fun k => D k - lap p (fun a b => btw f a b m) σ k) := by
                    rw [← HDE.out]
                    exact HEQ.out.trans ⟨σ, fun _ _ => rfl⟩
                  clear hred hv6 hc6
                  go_ret
                  exact ⟨bd, cd, _, rfl, HV6.out, HE2.out, HX.out, HB6.out⟩
                · intro u6 u20 u21 u22 u23 u169 u170 u171 u172 u173 u174 u175 u176 u177 u178 u179 u180 u181 u182 u183 u184 u185 u186 u187 u188 u189 u190 u191 u192 u193 u194 u195 u196 u197 u198 u199 u200 u201 u202 u203 u204 u205 u206 u207 u208 u209 u210 u211 u212 u213 u214 u215 u216 w6 hX hc6
                  obtain ⟨S, t, x, hSa, hx, hSx, hof, hv6⟩ := hX
                  obtain ⟨hr2, he2, hs2⟩ := HR.out.fire (fun _ _ => rfl) hSa hof hx hSx
                  have HR2 := Lib.hid hr2
                  have HV6 := Lib.hid (hv6.congr (G := fun k => D k - lap p (fun a b => btw f a b m) (fun j => σ j + if S j then t else 0) k) fun k hk => by
                    rw [he2 k hk]
                    have := hr2.bound HGR.out ha HS1.out HRG.out hk
                    unfold wrap64; omega)
                  have HG6 : Hid (Row w6 w.heap.size 24 [.int .i64 (p : Int), .slice ea m ec]) := row_chg HG.out hc6 hgd
                  have HB6 : Hid (Below w.heap.size w w6) := ⟨hc6.os.trans HB.out.os, hc6.tape.trans HB.out.tape, hc6.output.trans HB.out.output, Nat.le_trans HB.out.size hc6.size, fun k hk => (hc6.block k (Nat.lt_of_lt_of_le hk HB.out.size) (by omega)).trans (HB.out.block k hk)⟩
                  have HSS : Hid (sumZ σ p + 1 ≤ sumZ (fun j => σ j + if S j then t else 0) p) := hs2
                  have HBB : Hid (sumZ (fun j => σ j + if S j then t else 0) p ≤ bnd) := HBND.out _ hr2
                  clear hr2 he2 hs2 hv6 hc6 hof
                  go_step
                  apply_assumption
                  go_wp2_with fail
                  go_roundg ((bnd - sumZ (fun j => σ j + if S j then t else 0) p).toNat)
                  case measure => have h1 := HSS.out; have h2 := HBB.out; have h3 := HGK.out; omega
                  case rel => exact ⟨_, HR2.out, HV6.out, HG6.out, HB6.out, rfl⟩
end Ch
end Go.Proofs.YtjikildiblchpaaDoor

/- WALK: chips.sum, Genus, Canonical; edenref6.Genus, Canonical, Fire. -/
namespace Go.Proofs.YtjikildiblchpaaDoor
set_option linter.unusedSimpArgs false
set_option linter.unusedVariables false
open Go.RowKit Go.Lib
namespace Ch
open Tld Mem Rt

theorem deg_total {P : Nat} {f : Nat → Nat → Int} : ∀ {m : Nat}, (∀ i, i < m → EdgeN P f i) → sumN (fun k => deg f k m) P = 2 * sumN (fun i => eT f i) m
  | 0, _ => by
    rw [sumN_congr (F := fun k => deg f k 0) (G := fun _ => 0) fun _ _ => rfl]
    exact sumN_zero
  | m + 1, h => by
    have ih := deg_total (m := m) fun i hi => h i (by omega)
    have hm := h m (by omega)
    have e : sumN (fun k => deg f k (m + 1)) P = sumN (fun k => deg f k m) P + (sumN (fun k => if eA f m = k then eT f m else 0) P + sumN (fun k => if eB f m = k then eT f m else 0) P) := by
      rw [← sumN_add, ← sumN_add]
      refine sumN_congr fun k _ => ?_
      have hne := hm.ne
      show deg f k (m + 1) = deg f k m + ((if eA f m = k then eT f m else 0) + if eB f m = k then eT f m else 0)
      rw [deg_succ]
      congr 1
      by_cases h1 : eA f m = k
      · rw [if_pos (.inl h1), if_pos h1, if_neg (by omega)]; rfl
      · by_cases h2 : eB f m = k
        · rw [if_pos (.inr h2), if_neg h1, if_pos h2, Nat.zero_add]
        · rw [if_neg (fun h => h.elim h1 h2), if_neg h1, if_neg h2]
    rw [e, ih]
    have e1 := sumN_pickF (a := eA f m) (F := fun _ => eT f m) (n := P)
    have e2 := sumN_pickF (a := eB f m) (F := fun _ => eT f m) (n := P)
    rw [if_pos hm.al] at e1
    rw [if_pos hm.bl] at e2
    rw [e1, e2]
    show _ = 2 * (sumN (fun i => eT f i) m + eT f m)
    omega
/-- The genus. -/
def genZ (p m : Nat) (f : Nat → Nat → Int) : Int := 1 - (p : Int) + (sumN (fun i => eT f i) m : Int)
/-- The canonical divisor. -/
def canL (p m : Nat) (f : Nat → Nat → Int) : Nat → List Int
  | 0 => []
  | k + 1 => canL p m f k ++ [(deg f k m : Int) - 2]
theorem canL_len {p m : Nat} {f : Nat → Nat → Int} : ∀ {k : Nat}, (canL p m f k).length = k
  | 0 => rfl
  | k + 1 => by
    show (canL p m f k ++ _).length = _
    rw [List.length_append, canL_len]; rfl
theorem canL_snoc {p m k : Nat} {f : Nat → Nat → Int} : (canL p m f (k + 1)).map (Value.int .i64) = (canL p m f k).map (Value.int .i64) ++ [.int .i64 ((deg f k m : Int) - 2)] := by
  show (canL p m f k ++ _).map _ = _
  rw [List.map_append]; rfl

set_option maxHeartbeats 4000000 in
theorem sumD_any (b P c : Nat) (F : Nat → Nat) (w : World) (hV : ∀ k, k < P → w.cell? ⟨b, k, none⟩ = some (.int .i64 (F k : Int))) (hP : P ≤ 10) (hF : ∀ k, k < P → F k ≤ 4000) :
    Calls Tryd.prog 37 #[.slice (some ⟨b, 0, none⟩) P c] w fun e w' => e = .returned (.int .i64 (sumN F P : Nat)) ∧ w' = w := by
  have HV := Lib.hid hV
  have HS : Hid (∀ k, k ≤ P → sumN F k ≤ 4000 * k) := fun k hk => by
    have := sumN_le (F := F) (G := fun _ => 4000) (n := k) fun i hi => hF i (by omega)
    rw [sumN_const] at this
    omega
  have HF := Lib.hid hF
  clear hV hF
  go_enter Tryd.func37, Tryd.ntmps37
  go_wp2_with fail
  go_loopw [2, 7] (fun y z wr => ∃ k : Nat, k ≤ P ∧ y = .int .i64 (sumN F k : Nat) ∧ z = .int .i64 (k : Int) ∧ wr = w) (fun _ z _ => P - (intOf z).toNat)
  case atStart => exact ⟨0, Nat.zero_le _, rfl, rfl, rfl⟩
  case round =>
    obtain ⟨k, hkP, rfl, rfl, rfl⟩ := hrel
    have hs := HS.out k hkP
    by_cases hk : k < P
    · have hk2 : (k : Int) < (P : Int) := by omega
      have c1 := HV.out k hk
      have hf := HF.out k hk
      have HNX : Hid (sumN F (k + 1) = sumN F k + F k) := rfl
      obtain ⟨s, hs'⟩ : ∃ s, s = sumN F k := ⟨_, rfl⟩
      rw [← hs'] at HNX hs ⊢
      clear hs'
      obtain ⟨x, hx⟩ : ∃ x, x = F k := ⟨_, rfl⟩
      rw [← hx] at HNX c1 hf
      clear hx
      have hf1 : (s : Int) + (x : Int) ≤ 9223372036854775807 := by omega
      have hf2 : (-9223372036854775808 : Int) ≤ (s : Int) + (x : Int) := by omega
      go_wp2_with fail
      go_roundw
      case rel => exact ⟨k + 1, by omega, by rw [HNX.out, Int.natCast_add], by go_num, by trivial⟩
      case measure => simp [intOf]; omega
    · obtain rfl : k = P := by omega
      go_wp2_with fail
      go_ret
      exact ⟨rfl, rfl⟩
theorem lst_nil (w : World) : Lst w none [] (fun _ => none) (fun _ => 0) := fun j hj => absurd hj (Nat.not_lt_zero _)
theorem ch_nil {P : Int} {m : Nat} {f : Nat → Nat → Int} : chfault P m f [] = gfault P m f := by
  by_cases h : gfault P m f = 0
  · rw [chfault_l h, h]; rfl
  · rw [chfault_g h]
theorem chk_nil {P : Int} {m : Nat} {f : Nat → Nat → Int} {w w' : World} {e : Ending} (h : ChkPost P m f [] w e w') : ((gfault P m f ≠ 0 ∧ e = .returned (.tuple #[.pointer none, errV (gfault P m f)])) ∨ (gfault P m f = 0 ∧ ∃ bn, e = .returned (.tuple #[.pointer (some ⟨bn, 0, none⟩), .nilIface]) ∧ Net w' bn P.toNat (fun a b => btw f a b m) (fun a => deg f a m))) ∧ Below w.heap.size w w' := by
  unfold ChkPost at h
  rw [ch_nil] at h
  exact h

set_option maxHeartbeats 8000000 in
set_option maxRecDepth 1000000 in
theorem genusP_any (P : Int) (ea : Option Addr) (m ec : Nat) (f : Nat → Nat → Int) (w : World) (hE : Mem.Rows w ea m 3 (fun i j => .int .i64 (f i j))) (hm : m ≤ 9223372036854775807) :
    Calls Tryd.prog 21 #[.agg #[.int .i64 P, .slice ea m ec]] w fun e w' => ((gfault P m f ≠ 0 ∧ e = .returned (.tuple #[.int .i64 0, errV (gfault P m f)])) ∨ (gfault P m f = 0 ∧ e = .returned (.tuple #[.int .i64 (genZ P.toNat m f), .nilIface]))) ∧ Below w.heap.size w w' := by
  have HE := Lib.hid hE
  clear hE
  go_enter Tryd.func21, Tryd.ntmps21
  go_upto_region 1 with fail
  have hR : Row (w.alloc (.cells #[.int .i64 P, .slice ea m ec] 24)) w.heap.size 24 [.int .i64 P, .slice ea m ec] := row_alloc w _ _
  have hB : Below w.heap.size w (w.alloc (.cells #[.int .i64 P, .slice ea m ec] 24)) := (Below.refl _ _).alloc (Nat.le_refl _) _
  have HG := Lib.hid hR
  have HB := Lib.hid hB
  clear hR hB
  generalize w.alloc (.cells #[.int .i64 P, .slice ea m ec] 24) = w1 at *
  have l1 := row_range HG.out
  go_wp2_with (refine wpList_load_mid rfl 24 _ rfl w.heap.size 0 rfl _ _ l1 Tryd.underlying24 rfl infoGraph ?_)
  clear l1
  refine (chk_any P ea m ec f none 0 0 [] _ _ w1 (rows_keep HE.out HB.out) hm (lst_nil w1) rfl (by omega)).mono ?_
  intro e1 w2 hpost
  obtain ⟨⟨hf, rfl⟩ | ⟨hf, bn, rfl, hnet⟩, hb2⟩ := chk_nil hpost
  · have HB2 := Lib.hid (HB.out.trans (hb2.mono HB.out.size))
    have HF := Lib.hid hf
    rw [errV_some hf]
    clear hf hb2 hpost
    go_wp2_with fail
    go_ret2
    exact ⟨.inl ⟨HF.out, by rw [errV_some HF.out]; rfl⟩, HB2.out⟩
  · obtain ⟨p, rfl, hok⟩ := gfault_zero hf
    have HF := Lib.hid hf
    have HG2 := Lib.hid (HG.out.keep hb2 HG.out.lt)
    have HB2 := Lib.hid (HB.out.trans (hb2.mono HB.out.size))
    rw [Int.toNat_natCast] at hnet
    obtain ⟨be, ce, bd, cd, bk, h1, h2, h3⟩ := hnet.ex
    have hp10 := hok.p10
    have hm40 := hok.m40
    have HDT := Lib.hid (deg_total hok.edge)
    have HSD : Hid (∀ w', w'.heap = w2.heap → Calls Tryd.prog 37 #[.slice (some ⟨bd, 0, none⟩) p cd] w' fun e w'' => e = .returned (.int .i64 (sumN (fun a => deg f a m) p : Nat)) ∧ w'' = w') := fun w' hw => sumD_any bd p cd (fun a => deg f a m) w' (fun k hk => by
      rw [show w'.cell? ⟨bd, k, none⟩ = w2.cell? ⟨bd, k, none⟩ from World.cell?_of_block (by rw [hw])]
      exact (h3 k hk).2.1) hp10 (fun k hk => Nat.le_trans (deg_le hok.edge) (by omega))
    have hst : sumN (fun i => eT f i) m ≤ 4000 := by
      have := sumN_le (F := fun i => eT f i) (G := fun _ => 100) (n := m) fun i hi => (hok.edge i hi).th
      rw [sumN_const] at this
      omega
    have HGZ : Hid (genZ ((p : Int).toNat) m f = (sumN (fun i => eT f i) m : Int) - (p : Int) + 1) := by
      show _ = _
      rw [Int.toNat_natCast]
      unfold genZ; omega
    rw [HDT.out] at HSD
    generalize sumN (fun i => eT f i) m = st at *
    have g0 := HG2.out.cell 0
    dsimp only [List.getElem?_cons_zero] at g0
    have hq : ((2 * st : Nat) : Int).tdiv 2 = (st : Int) := by
      have : ((2 * st : Nat) : Int).tdiv ((2 : Nat) : Int) = ((2 * st / 2 : Nat) : Int) := Int.ofNat_tdiv _ _
      rw [Nat.mul_div_cancel_left _ (by omega)] at this
      exact this
    have hq2 : (2 * (st : Int)).tdiv 2 = (st : Int) := by
      have h : 2 * (st : Int) = ((2 * st : Nat) : Int) := by omega
      rw [h]; exact hq
    have hw1 : IntKind.i64.wrap (st : Int) = (st : Int) := by rw [IntWalk.i64_left]; unfold wrap64; omega
    have hw2 : IntKind.i64.wrap ((st : Int) - (p : Int)) = (st : Int) - (p : Int) := by rw [IntWalk.i64_left]; unfold wrap64; omega
    have hw3 : IntKind.i64.wrap ((st : Int) - (p : Int) + 1) = (st : Int) - (p : Int) + 1 := by rw [IntWalk.i64_left]; unfold wrap64; omega
    have hf1 : (-9223372036854775808 : Int) ≤ (st : Int) - (p : Int) := by omega
    have hf2 : (st : Int) - (p : Int) + 1 ≤ 9223372036854775807 := by omega
    clear hf hok hnet hb2 hpost h3 HDT
    go_upto_region 4 with fail
    go_region_with (refine (HSD.out _ ?_).mono ?_; rfl; rintro e w' ⟨rfl, rfl⟩)
    all_goals
      go_wp2_with fail
      go_ret2
      exact ⟨.inr ⟨HF.out, by rw [HGZ.out]; rfl⟩, HB2.out.trans ((Below.refl _ _).drew)⟩
end Ch
end Go.Proofs.YtjikildiblchpaaDoor

/- WALK of the document's answer: edenref6.Genus, Canonical, Fire; chips.Canonical. -/
namespace Go.Proofs.YtjikildiblchpaaDoor
set_option linter.unusedSimpArgs false
set_option linter.unusedVariables false
open Go.RowKit Go.Lib
namespace Ch
open Tld Mem Rt

set_option maxHeartbeats 8000000 in
set_option maxRecDepth 1000000 in
theorem canP_any (P : Int) (ea : Option Addr) (m ec : Nat) (f : Nat → Nat → Int) (w : World) (hE : Mem.Rows w ea m 3 (fun i j => .int .i64 (f i j))) (hm : m ≤ 9223372036854775807) :
    Calls Tryd.prog 22 #[.agg #[.int .i64 P, .slice ea m ec]] w fun e w' => ((gfault P m f ≠ 0 ∧ e = .returned (.tuple #[.slice none 0 0, errV (gfault P m f)])) ∨ (gfault P m f = 0 ∧ ∃ (p : Nat) (a : Option Addr) (c : Nat), P = (p : Int) ∧ e = .returned (.tuple #[.slice a p c, .nilIface]) ∧ Ints.Is w' a p (canL p m f p))) ∧ Below w.heap.size w w' := by
  obtain ⟨i0, hI0, hz0, hz1, hz2⟩ := info_parts infoIntN
  have HI0 := Lib.hid hI0
  have HZ0 := Lib.hid hz0
  have HZ1 := Lib.hid hz1
  have HZ2 := Lib.hid hz2
  have HE := Lib.hid hE
  clear hE hI0 hz0 hz1 hz2
  go_enter Tryd.func22, Tryd.ntmps22
  go_upto_region 1 with fail
  have hR : Row (w.alloc (.cells #[.int .i64 P, .slice ea m ec] 24)) w.heap.size 24 [.int .i64 P, .slice ea m ec] := row_alloc w _ _
  have hB : Below w.heap.size w (w.alloc (.cells #[.int .i64 P, .slice ea m ec] 24)) := (Below.refl _ _).alloc (Nat.le_refl _) _
  have HG := Lib.hid hR
  have HB := Lib.hid hB
  clear hR hB
  generalize w.alloc (.cells #[.int .i64 P, .slice ea m ec] 24) = w1 at *
  have l1 := row_range HG.out
  go_wp2_with (refine wpList_load_mid rfl 24 _ rfl w.heap.size 0 rfl _ _ l1 Tryd.underlying24 rfl infoGraph ?_)
  clear l1
  refine (chk_any P ea m ec f none 0 0 [] _ _ w1 (rows_keep HE.out HB.out) hm (lst_nil w1) rfl (by omega)).mono ?_
  intro e1 w2 hpost
  obtain ⟨⟨hf, rfl⟩ | ⟨hf, bn, rfl, hnet⟩, hb2⟩ := chk_nil hpost
  · have HB2 := Lib.hid (HB.out.trans (hb2.mono HB.out.size))
    have HF := Lib.hid hf
    rw [errV_some hf]
    clear hf hb2 hpost
    go_wp2_with fail
    go_ret2
    exact ⟨.inl ⟨HF.out, by rw [errV_some HF.out]; rfl⟩, HB2.out⟩
  · obtain ⟨p, rfl, hok⟩ := gfault_zero hf
    have HF := Lib.hid hf
    have HB2 := Lib.hid (HB.out.trans (hb2.mono HB.out.size))
    have hbw2 : w.heap.size ≤ w2.heap.size := HB2.out.size
    rw [Int.toNat_natCast] at hnet
    obtain ⟨be, ce, bd, cd, bk, h1, h2, h3⟩ := hnet.ex
    have hp10 := hok.p10
    have HD4 : Hid (∀ k, deg f k m ≤ 4000) := fun k => Nat.le_trans (deg_le hok.edge) (by have := hok.m40; omega)
    have HDC : Hid (∀ k, k < p → w2.cell? ⟨bd, k, none⟩ = some (.int .i64 (deg f k m : Int)) ∧ bd < w2.heap.size) := fun k hk => ⟨(h3 k hk).2.1, lt_of_cell (h3 k hk).2.1⟩
    have HO := Lib.hid (own_nil w2 w2.heap.size)
    have HBX : Hid (Below w2.heap.size w2 w2) := Below.refl _ _
    clear hf hok hnet hb2 hpost h3
    go_wp2_with fail
    clear h1 h2
    go_loopw [6, 22] (fun y z wr => ∃ (k : Nat) (ao : Option Addr) (co : Nat), k ≤ p ∧ y = .slice ao k co ∧ z = .int .i64 (k : Int) ∧ wr.ownsRow w2.heap.size 3 1 (.slice ao k co) k ((canL p m f k).map (Value.int .i64)) ∧ Below w2.heap.size w2 wr) (fun _ z _ => p - (intOf z).toNat)
    case atStart => exact ⟨0, none, 0, Nat.zero_le _, rfl, rfl, HO.out, HBX.out⟩
    case round =>
      clear HO HBX
      obtain ⟨k, ao, co, hkp, rfl, rfl, ho, hb⟩ := hrel
      have HO := Lib.hid ho
      have HBX := Lib.hid hb
      clear ho hb
      by_cases hk : k < p
      · have hk2 : (k : Int) < (p : Int) := by omega
        have c1 := HDC.out k hk
        have c2 : wr.cell? ⟨bd, k, none⟩ = some (.int .i64 (deg f k m : Int)) := by rw [HBX.out.cell c1.2]; exact c1.1
        clear c1
        have hx4 := HD4.out k
        have HNX : Hid ((canL p m f (k + 1)).map (Value.int .i64) = (canL p m f k).map (Value.int .i64) ++ [.int .i64 ((deg f k m : Int) - 2)]) := canL_snoc
        obtain ⟨x, hx⟩ : ∃ x, x = deg f k m := ⟨_, rfl⟩
        rw [← hx] at c2 hx4 HNX
        clear hx
        have hf1 : (-9223372036854775808 : Int) ≤ (x : Int) - 2 := by omega
        have hf2 : (x : Int) - 2 ≤ 9223372036854775807 := by omega
        have c3 : (wr.alloc (.cells [.int .i64 ((x : Int) - 2)].toArray 3)).cell? ⟨bd, k, none⟩ = some (.int .i64 (x : Int)) := cell_keep c2 ((Below.refl _ _).alloc (Nat.le_refl _) _)
        have hnew := row_alloc wr 3 [.int .i64 ((x : Int) - 2)]
        have hbn : Below wr.heap.size wr (wr.alloc (.cells [.int .i64 ((x : Int) - 2)].toArray 3)) := (Below.refl _ _).alloc (Nat.le_refl _) _
        have HOa := Lib.hid (own_keep HO.out hbn)
        have HBa := Lib.hid (HBX.out.trans (hbn.mono HBX.out.size))
        have HCEL := Lib.hid (hnew.cell 0)
        have HSZ : Hid (w2.heap.size ≤ (wr.alloc (.cells [.int .i64 ((x : Int) - 2)].toArray 3)).heap.size) := HBa.out.size
        clear hnew hbn HO HBX
        go_wp2_with (at_builtin; refine Ops.wpList_append1 rfl _ _ 25 rfl w2.heap.size 3 i0 (.int .i64 0) 8 Tryd.underlying25 HI0.out HZ0.out rfl HZ1.out HZ2.out _ k _ rfl HOa.out ⟨wr.heap.size, 0, none⟩ 1 (.int .i64 ((x : Int) - 2)) rfl HCEL.out rfl ?c1 ?c2 HSZ.out ?_)
        case c1 => unfold maxLen; omega
        case c2 => omega
        intro ao' co' w5 hO3 hg3
        have HB3 := Lib.hid (HBa.out.grown hg3 HSZ.out (own_low HOa.out))
        rw [← HNX.out] at hO3
        have HO3 := Lib.hid hO3
        clear hO3 hg3 HOa HBa HCEL HSZ
        go_wp2_with fail
        go_roundw
        case rel => exact ⟨k + 1, ao', co', by omega, rfl, by go_num, HO3.out, HB3.out⟩
        case measure => simp [intOf]; omega
      · obtain rfl : k = p := by omega
        have HI := Lib.hid (own_is HO.out canL_len (by unfold maxLen; omega)).1
        have HBF := Lib.hid (HB2.out.trans (HBX.out.mono HB2.out.size))
        go_wp2_with fail
        go_ret2
        exact ⟨.inr ⟨HF.out, k, ao, co, rfl, rfl, HI.out⟩, HBF.out⟩

set_option maxHeartbeats 8000000 in
set_option maxRecDepth 1000000 in
theorem rcan_any (p : Nat) (ea : Option Addr) (m ec : Nat) (f : Nat → Nat → Int) (w : World) (hE : Mem.Rows w ea m 3 (fun i j => .int .i64 (f i j))) (hok : GOk p m f) :
    Calls Tryd.prog 24 #[.agg #[.int .i64 (p : Int), .slice ea m ec]] w fun e w' => (∃ (a : Option Addr) (c : Nat), e = .returned (.slice a p c) ∧ Ints.Is w' a p (canL p m f p)) ∧ Below w.heap.size w w' := by
  obtain ⟨i0, hI0, hz0, hz1, hz2⟩ := info_parts infoIntN
  have HI0 := Lib.hid hI0
  have HZ0 := Lib.hid hz0
  have HZ1 := Lib.hid hz1
  have HZ2 := Lib.hid hz2
  have HE := Lib.hid hE
  have HOK := Lib.hid hok
  have hp10 := hok.p10
  have HD4 : Hid (∀ k, deg f k m ≤ 4000) := fun k => Nat.le_trans (deg_le hok.edge) (by have := hok.m40; omega)
  clear hE hI0 hz0 hz1 hz2 hok
  go_enter Tryd.func24, Tryd.ntmps24
  go_upto_region 1 with fail
  have hR : Row (w.alloc (.cells #[.int .i64 (p : Int), .slice ea m ec] 24)) w.heap.size 24 [.int .i64 (p : Int), .slice ea m ec] := row_alloc w _ _
  have hB : Below w.heap.size w (w.alloc (.cells #[.int .i64 (p : Int), .slice ea m ec] 24)) := (Below.refl _ _).alloc (Nat.le_refl _) _
  have HG := Lib.hid hR
  have HB := Lib.hid hB
  clear hR hB
  generalize w.alloc (.cells #[.int .i64 (p : Int), .slice ea m ec] 24) = w1 at *
  have HO := Lib.hid (own_nil w1 w.heap.size)
  go_wp2_with fail
  go_loopw [3, 4] (fun y z wr => ∃ (k : Nat) (ao : Option Addr) (co : Nat), k ≤ p ∧ y = .slice ao k co ∧ z = .int .i64 (k : Int) ∧ wr.ownsRow w.heap.size 3 1 (.slice ao k co) k ((canL p m f k).map (Value.int .i64)) ∧ Row wr w.heap.size 24 [.int .i64 (p : Int), .slice ea m ec] ∧ Below w.heap.size w wr) (fun _ z _ => p - (intOf z).toNat)
  case atStart => exact ⟨0, none, 0, Nat.zero_le _, rfl, rfl, HO.out, HG.out, HB.out⟩
  case round =>
    clear HO HB HG
    obtain ⟨k, ao, co, hkp, rfl, rfl, ho, hg, hb⟩ := hrel
    have HO := Lib.hid ho
    have HG := Lib.hid hg
    have HB := Lib.hid hb
    have g0 := hg.cell 0
    dsimp only [List.getElem?_cons_zero] at g0
    clear ho hg hb
    by_cases hk : k < p
    · have hk2 : (k : Int) < (p : Int) := by omega
      have l1 := row_range HG.out
      go_wp2_with (refine wpList_load_mid rfl 24 _ rfl w.heap.size 0 rfl _ _ l1 Tryd.underlying24 rfl infoGraph ?_)
      clear l1 g0
      refine (degree_any (p : Int) p ea m ec f k wr (rows_keep HE.out HB.out) HOK.out.m40 (fun i hi => HOK.out.edge i hi)).mono ?_
      rintro e1 w4 ⟨rfl, hb4⟩
      have HO := Lib.hid (own_keep HO.out hb4)
      have HG := Lib.hid (HG.out.keep hb4 HG.out.lt)
      have HB := Lib.hid (HB.out.trans (hb4.mono HB.out.size))
      clear hb4
      have hx4 := HD4.out k
      have HNX : Hid ((canL p m f (k + 1)).map (Value.int .i64) = (canL p m f k).map (Value.int .i64) ++ [.int .i64 ((deg f k m : Int) - 2)]) := canL_snoc
      obtain ⟨x, hx⟩ : ∃ x, x = deg f k m := ⟨_, rfl⟩
      rw [← hx] at hx4 HNX ⊢
      clear hx
      have hf1 : (-9223372036854775808 : Int) ≤ (x : Int) - 2 := by omega
      have hf2 : (x : Int) - 2 ≤ 9223372036854775807 := by omega
      have hnew := row_alloc w4 3 [.int .i64 ((x : Int) - 2)]
      have hbn : Below w4.heap.size w4 (w4.alloc (.cells [.int .i64 ((x : Int) - 2)].toArray 3)) := (Below.refl _ _).alloc (Nat.le_refl _) _
      have HOa := Lib.hid (own_keep HO.out hbn)
      have HBa := Lib.hid (HB.out.trans (hbn.mono HB.out.size))
      have HGa := Lib.hid (HG.out.keep hbn HG.out.lt)
      have HCEL := Lib.hid (hnew.cell 0)
      have HSZ : Hid (w.heap.size ≤ (w4.alloc (.cells [.int .i64 ((x : Int) - 2)].toArray 3)).heap.size) := HBa.out.size
      clear hnew hbn HO HB
      go_wp2_with (at_builtin; refine Ops.wpList_append1 rfl _ _ 25 rfl w.heap.size 3 i0 (.int .i64 0) 8 Tryd.underlying25 HI0.out HZ0.out rfl HZ1.out HZ2.out _ k _ rfl HOa.out ⟨w4.heap.size, 0, none⟩ 1 (.int .i64 ((x : Int) - 2)) rfl HCEL.out rfl ?c1 ?c2 HSZ.out ?_)
      case c1 => unfold maxLen; omega
      case c2 => omega
      intro ao' co' w5 hO3 hg3
      have HB3 := Lib.hid (HBa.out.grown hg3 HSZ.out (own_low HOa.out))
      have HG3 := Lib.hid (row_grown HOa.out hg3 HGa.out (by decide))
      rw [← HNX.out] at hO3
      have HO3 := Lib.hid hO3
      clear hO3 hg3 HOa HBa HCEL HSZ
      go_wp2_with fail
      go_roundw
      case rel => exact ⟨k + 1, ao', co', by omega, rfl, by go_num, HO3.out, HG3.out, HB3.out⟩
      case measure => simp [intOf]; omega
    · obtain rfl : k = p := by omega
      have HI := Lib.hid (own_is HO.out canL_len (by unfold maxLen; omega)).1
      go_wp2_with fail
      go_ret
      exact ⟨⟨ao, co, rfl, HI.out⟩, HB.out⟩

set_option maxHeartbeats 8000000 in
set_option maxRecDepth 1000000 in
theorem rgenus_any (p : Nat) (ea : Option Addr) (m ec : Nat) (f : Nat → Nat → Int) (w : World) (hE : Mem.Rows w ea m 3 (fun i j => .int .i64 (f i j))) (hok : GOk p m f) :
    Calls Tryd.prog 23 #[.agg #[.int .i64 (p : Int), .slice ea m ec]] w fun e w' => e = .returned (.int .i64 (genZ p m f)) ∧ Below w.heap.size w w' := by
  have HE := Lib.hid hE
  have HOK := Lib.hid hok
  have hp10 := hok.p10
  have hm40 := hok.m40
  have HS : Hid (∀ i, i ≤ m → sumN (fun i => eT f i) i ≤ 100 * i) := fun i hi => by
    have := sumN_le (F := fun i => eT f i) (G := fun _ => 100) (n := i) fun j hj => (hok.edge j (by omega)).th
    rw [sumN_const] at this
    omega
  clear hE hok
  go_enter Tryd.func23, Tryd.ntmps23
  go_upto_region 1 with fail
  have hR : Row (w.alloc (.cells #[.int .i64 (p : Int), .slice ea m ec] 24)) w.heap.size 24 [.int .i64 (p : Int), .slice ea m ec] := row_alloc w _ _
  have hB : Below w.heap.size w (w.alloc (.cells #[.int .i64 (p : Int), .slice ea m ec] 24)) := (Below.refl _ _).alloc (Nat.le_refl _) _
  have HG := Lib.hid hR
  have HB := Lib.hid hB
  clear hR hB
  generalize w.alloc (.cells #[.int .i64 (p : Int), .slice ea m ec] 24) = w1 at *
  have g0 := HG.out.cell 0
  dsimp only [List.getElem?_cons_zero] at g0
  have g1 := HG.out.cell 1
  dsimp only [List.getElem?_cons_succ, List.getElem?_cons_zero] at g1
  have hf1 : (-9223372036854775808 : Int) ≤ 1 - (p : Int) := by omega
  have hf2 : 1 - (p : Int) ≤ 9223372036854775807 := by omega
  go_wp2_with fail
  clear g0
  go_loopw [3, 4] (fun y z wr => ∃ i : Nat, i ≤ m ∧ y = .int .i64 (1 - (p : Int) + (sumN (fun i => eT f i) i : Int)) ∧ z = .int .i64 (i : Int) ∧ wr = w1) (fun _ z _ => m - (intOf z).toNat)
  case atStart => exact ⟨0, Nat.zero_le _, by show Value.int .i64 (1 - (p : Int)) = Value.int .i64 (1 - (p : Int) + ((0 : Nat) : Int)); congr 1; omega, rfl, rfl⟩
  case round =>
    obtain ⟨i, him, rfl, rfl, rfl⟩ := hrel
    have hs := HS.out i him
    by_cases hi : i < m
    · have hi2 : (i : Int) < (m : Int) := by omega
      obtain ⟨b, off, rfl, hbl, hcl⟩ := (rows_keep HE.out HB.out) i hi
      have c2 := hcl 2 (by omega)
      dsimp only at c2
      rw [(HOK.out.edge i hi).t] at c2
      have hth := (HOK.out.edge i hi).th
      have HNX : Hid (sumN (fun i => eT f i) (i + 1) = sumN (fun i => eT f i) i + eT f i) := rfl
      obtain ⟨s, hs'⟩ : ∃ s, s = sumN (fun i => eT f i) i := ⟨_, rfl⟩
      rw [← hs'] at HNX hs ⊢
      clear hs'
      obtain ⟨x, hx⟩ : ∃ x, x = eT f i := ⟨_, rfl⟩
      rw [← hx] at HNX c2 hth
      clear hx hcl
      have hf3 : (-9223372036854775808 : Int) ≤ 1 - (p : Int) + (s : Int) + (x : Int) := by omega
      have hf4 : 1 - (p : Int) + (s : Int) + (x : Int) ≤ 9223372036854775807 := by omega
      have c3 : wr.cell? ⟨b, off + i * 3 + 2, none⟩ = some (.int .i64 (x : Int)) := c2
      go_wp2_with fail
      go_roundw
      case rel => exact ⟨i + 1, by omega, by rw [HNX.out, Int.natCast_add, ← Int.add_assoc], by go_num, by trivial⟩
      case measure => simp [intOf]; omega
    · obtain rfl : i = m := by omega
      go_wp2_with fail
      go_ret
      exact ⟨rfl, HB.out⟩

set_option maxHeartbeats 8000000 in
set_option maxRecDepth 1000000 in
theorem rfire_any (p a m : Nat) (t : Int) (ea : Option Addr) (ec : Nat) (f : Nat → Nat → Int) (da : Option Addr) (dc : Nat) (zs : List Int) (w : World) (hE : Mem.Rows w ea m 3 (fun i j => .int .i64 (f i j))) (hok : GOk p m f) (ha : a < p) (hD : Ints.Is w da p zs) (hz : ∀ k, k < p → -1000 ≤ zs.getD k 0 ∧ zs.getD k 0 ≤ 1000) (ht1 : -1000 ≤ t) (ht2 : t ≤ 1000) :
    Calls Tryd.prog 26 #[.agg #[.int .i64 (p : Int), .slice ea m ec], .slice da p dc, .int .i64 (a : Int), .int .i64 t] w fun e w' => (∃ (b c : Nat), e = .returned (.slice (some ⟨b, 0, none⟩) p c) ∧ Vec w' b p (fireZ p (fun a b => btw f a b m) (fun k => zs.getD k 0) (fun j => decide (j = a)) t)) ∧ Below w.heap.size w w' := by
  have hp10 := hok.p10
  have hp0 : 0 < p := hok.p1
  have HOK := Lib.hid hok
  have HE := Lib.hid hE
  have HDI := Lib.hid hD
  have HZ := Lib.hid hz
  clear hE hok hD hz
  go_enter Tryd.func26, Tryd.ntmps26
  go_upto_region 2 with fail
  have hR : Row (w.alloc (.cells #[.int .i64 (p : Int), .slice ea m ec] 24)) w.heap.size 24 [.int .i64 (p : Int), .slice ea m ec] := row_alloc w _ _
  have hB : Below w.heap.size w (w.alloc (.cells #[.int .i64 (p : Int), .slice ea m ec] 24)) := (Below.refl _ _).alloc (Nat.le_refl _) _
  have HG := Lib.hid hR
  have HB := Lib.hid hB
  clear hR hB
  generalize w.alloc (.cells #[.int .i64 (p : Int), .slice ea m ec] 24) = w1 at *
  have HDI1 := Lib.hid (HDI.out.keep HB.out)
  go_upto_region 3 with (at_builtin; refine wpList_app_all rfl _ _ rfl _ _ _ _ rfl rfl HDI1.out hp0 (by omega) ?_; intro bd cd w2 hbd hvd hb2)
  have HG2 := Lib.hid (HG.out.keep hb2 HG.out.lt)
  have HB2 := Lib.hid (HB.out.trans (hb2.mono HB.out.size))
  have HD2 := Lib.hid hvd
  have hbd0 : w.heap.size ≤ bd := Nat.le_trans HB.out.size hbd
  have hgd : w.heap.size ≠ bd := by have := HG.out.lt; omega
  have g0 := HG2.out.cell 0
  dsimp only [List.getElem?_cons_zero] at g0
  have hmk := mk_bools p hp10
  clear hb2 hvd hbd HG HB HDI1
  go_upto_region 4 with fail
  have HS0 := Lib.hid (vecB_made w2 p)
  have hal : Below w2.heap.size w2 (w2.alloc (.cells (Array.replicate p (Value.bool false)) 4)) := (Below.refl _ _).alloc (Nat.le_refl _) _
  have HD3 := Lib.hid (HD2.out.keep hal HD2.out.lt)
  have HG3 := Lib.hid (HG2.out.keep hal HG2.out.lt)
  have HB3 := Lib.hid (HB2.out.trans (hal.mono HB2.out.size))
  have hbw : w.heap.size ≤ w2.heap.size := HB2.out.size
  have hbsd : w2.heap.size ≠ bd := by have := HD2.out.lt; omega
  have hbsg : w2.heap.size ≠ w.heap.size := by have := HG2.out.lt; omega
  obtain ⟨bs, hbse⟩ : ∃ b, b = w2.heap.size := ⟨_, rfl⟩
  rw [← hbse] at HS0 hbw hbsd hbsg
  rw [← hbse]
  clear hal hmk hbse HD2 HG2 HB2 g0
  generalize w2.alloc (.cells (Array.replicate p (Value.bool false)) 4) = w3 at *
  have ha2 : (a : Int) < (p : Int) := by omega
  have s1 := HS0.out.cell ha
  have z1 := HS0.out.frozen a
  have o1 := only_setCell w3 bs a (.bool true)
  have HS4 := Lib.hid ((HS0.out.set ha true).congr (G := fun k => decide (k = a)) fun j hj => by
    by_cases e : j = a
    · rw [e, updB_at, decide_eq_true rfl]
    · rw [updB_no e, decide_eq_false e])
  have HD4 := Lib.hid (HD3.out.other o1 (Ne.symm hbsd))
  have HG4 := Lib.hid (HG3.out.other o1 (Ne.symm hbsg))
  have HB4 := Lib.hid (HB3.out.trans (o1.below hbw))
  clear o1
  go_upto_region 5 with fail
  clear s1 z1 HS0 HD3 HG3 HB3
  generalize w3.setCell ⟨bs, a, none⟩ (.bool true) = w4 at *
  have HDW : Hid (Vec w4 bd p fun j => wrap64 (zs.getD j 0)) := HD4.out.congr fun j hj => by
    have := HZ.out j hj
    unfold wrap64; omega
  have l1 := row_range HG4.out
  go_wp2_with (refine wpList_load_mid rfl 24 _ rfl w.heap.size 0 rfl _ _ l1 Tryd.underlying24 rfl infoGraph ?_)
  clear l1
  refine (give_any p ea m ec f bd cd bs p (fun k => decide (k = a)) (fun k => zs.getD k 0) t w w4 HE.out HB4.out hbd0 HOK.out.m40 HOK.out.edge HDW.out HS4.out).mono ?_
  rintro e1 w5 ⟨⟨v5, rfl⟩, hv5, hc5⟩
  have HV5 := Lib.hid (hv5.congr (G := fireZ p (fun a b => btw f a b m) (fun k => zs.getD k 0) (fun j => decide (j = a)) t) fun j hj => by
    have := fire_small (gr_of HOK.out) (D := fun k => zs.getD k 0) (S := fun k => decide (k = a)) ht1 ht2 hj (HZ.out j hj)
    unfold wrap64; omega)
  have HB5 : Hid (Below w.heap.size w w5) := ⟨hc5.os.trans HB4.out.os, hc5.tape.trans HB4.out.tape, hc5.output.trans HB4.out.output, Nat.le_trans HB4.out.size hc5.size, fun k hk => (hc5.block k (Nat.lt_of_lt_of_le hk HB4.out.size) (by omega)).trans (HB4.out.block k hk)⟩
  clear hv5 hc5
  go_wp2_with fail
  go_ret
  exact ⟨⟨bd, cd, rfl, HV5.out⟩, HB5.out⟩
end Ch
end Go.Proofs.YtjikildiblchpaaDoor
