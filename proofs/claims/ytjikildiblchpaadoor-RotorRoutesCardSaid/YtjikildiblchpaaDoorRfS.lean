/- WALK of the document's answer: edenref6.Signs. -/
import Derived.Test.YtjikildiblchpaaDoorRfF
import Derived.Test.YtjikildiblchpaaDoorRfG
import Derived.Test.YtjikildiblchpaaDoorRfL
import Derived.Test.YtjikildiblchpaaDoorRtB
namespace Go.Proofs.YtjikildiblchpaaDoor
set_option linter.unusedSimpArgs false
set_option linter.unusedVariables false
open Go.RowKit Go.Lib
namespace Rt
open Tld Mem

set_option maxHeartbeats 8000000 in
set_option maxRecDepth 1000000 in
theorem rsigns_any (P sink : Int) (ea : Option Addr) (m ec : Nat) (f : Nat → Nat → Int) (sa : Option Addr) (sn sc : Nat) (sz : List Int) (w : World) (hE : Mem.Rows w ea m 3 (fun i j => .int .i64 (f i j))) (hm : m ≤ 9223372036854775807) (hS : Ints.Is w sa sn sz) :
    Calls Tryd.prog 6 #[.agg #[.int .i64 P, .slice ea m ec], .int .i64 sink, .slice sa sn sc] w fun e w' => e = .returned (.int .i64 (sfault P m f sink sz)) ∧ Below w.heap.size w w' := by
  have HE := Lib.hid hE
  have HS := Lib.hid hS
  have HSL := Lib.hid hS.len
  have hsl := hS.le
  unfold maxLen at hsl
  clear hE hS
  go_enter Tryd.func6, Tryd.ntmps6
  go_upto_region 1 with fail
  have hR : Row (w.alloc (.cells #[.int .i64 P, .slice ea m ec] 24)) w.heap.size 24 [.int .i64 P, .slice ea m ec] := row_alloc w _ _
  have hB : Below w.heap.size w (w.alloc (.cells #[.int .i64 P, .slice ea m ec] 24)) := (Below.refl _ _).alloc (Nat.le_refl _) _
  have HG := Lib.hid hR
  have HB := Lib.hid hB
  clear hR hB
  generalize w.alloc (.cells #[.int .i64 P, .slice ea m ec] 24) = w1 at *
  obtain ⟨bg, hbg⟩ : ∃ bg, bg = w.heap.size := ⟨_, rfl⟩
  rw [← hbg] at HG ⊢
  clear hbg
  have l1 := row_range HG.out
  go_wp2_with (refine wpList_load_mid rfl 24 _ rfl bg 0 rfl _ _ l1 Tryd.underlying24 rfl infoGraph ?_)
  clear l1
  refine (fault_any P ea m ec f w1 (rows_keep HE.out HB.out) hm).mono ?_
  rintro e1 w2 ⟨rfl, hb2⟩
  have HG := Lib.hid (HG.out.keep hb2 HG.out.lt)
  have HB := Lib.hid (HB.out.trans (hb2.mono HB.out.size))
  clear hb2
  by_cases hf : gfault P m f = 0
  · obtain ⟨p, rfl, hok⟩ := gfault_zero hf
    have HF := Lib.hid hf
    have HOK := Lib.hid hok
    rw [hf]
    clear hf hok
    have g0 := HG.out.cell 0
    dsimp only [List.getElem?_cons_zero] at g0
    by_cases h0 : sink < 0
    · have HNO := Lib.hid (sfault_s (sz := sz) HF.out (.inl h0))
      go_wp2_with fail
      go_ret
      exact ⟨by rw [HNO.out]; rfl, HB.out⟩
    by_cases h1 : (p : Int) ≤ sink
    · have HNO := Lib.hid (sfault_s (sz := sz) HF.out (.inr h1))
      go_wp2_with fail
      go_ret
      exact ⟨by rw [HNO.out]; rfl, HB.out⟩
    obtain ⟨s, rfl⟩ : ∃ s : Nat, sink = (s : Int) := ⟨sink.toNat, by omega⟩
    have hsp : s < p := by omega
    by_cases hl : sn = p
    · obtain rfl : p = sn := hl.symm
      have hle : ((p : Int) != (p : Int)) = false := bne_self_eq_false _
      have HLP : Hid (sz.length = p) := HSL.out
      have HCP := Lib.hid hl
      go_wp2_with fail
      clear hle hl g0 h0 h1
      generalize decide (p ≤ s) = qb
      generalize decide ((s : Int) < 0) = qa
      go_loopw [8] (fun u wr => ∃ k : Nat, k ≤ p ∧ u = .int .i64 (k : Int) ∧ (∀ j, j < k → SignOk s (fun k => deg f k m) j (sz.getD j 0)) ∧ Row wr bg 24 [.int .i64 (p : Int), .slice ea m ec] ∧ Below w.heap.size w wr) (fun u _ => p - (intOf u).toNat)
      case atStart => exact ⟨0, Nat.zero_le _, rfl, fun j hj => absurd hj (Nat.not_lt_zero _), HG.out, HB.out⟩
      case round =>
        clear HG HB
        obtain ⟨k, hkp, rfl, hall, hg, hb⟩ := hrel
        have HALL := Lib.hid hall
        have HG := Lib.hid hg
        have HB := Lib.hid hb
        clear hall hg hb
        by_cases hk : k < p
        · have hk2 : (k : Int) < (p : Int) := by have := HCP.out; omega
          have HBAD : Hid (¬ SignOk s (fun k => deg f k m) k (sz.getD k 0) → sfault (p : Int) m f (s : Int) sz = 1) := fun h => sfault_b HF.out (by omega) (by have := HLP.out; omega) ⟨k, by rw [Int.toNat_natCast]; exact hk, by rw [Int.toNat_natCast]; exact h⟩
          have HNX : Hid (SignOk s (fun k => deg f k m) k (sz.getD k 0) → ∀ j, j < k + 1 → SignOk s (fun k => deg f k m) j (sz.getD j 0)) := fun h j hj => by
            by_cases e : j = k
            · rw [e]; exact h
            · exact HALL.out j (by omega)
          have l1 := row_range HG.out
          go_upto_region 12 with (refine wpList_load_mid rfl 24 _ rfl bg 0 rfl _ _ l1 Tryd.underlying24 rfl infoGraph ?_)
          clear l1
          refine (degree_any (p : Int) p ea m ec f k _ (rows_keep HE.out HB.out) HOK.out.m40 (fun i hi => HOK.out.edge i hi)).mono ?_
          rintro e1 w3 ⟨rfl, hb3⟩
          have HG := Lib.hid (HG.out.keep hb3 HG.out.lt)
          have HB := Lib.hid (HB.out.trans (hb3.mono HB.out.size))
          clear hb3
          obtain ⟨bz, oz, rfl, _, hcz⟩ := (HS.out.keep HB.out).cells k (by have := HCP.out; omega)
          dsimp only at hcz
          obtain ⟨d, hd⟩ : ∃ d, d = deg f k m := ⟨_, rfl⟩
          rw [← hd]
          have HD := Lib.hid hd
          clear hd
          obtain ⟨z, hz⟩ : ∃ z, z = sz.getD k 0 := ⟨_, rfl⟩
          rw [← hz] at hcz HBAD HNX
          clear hz
          by_cases h1 : z < 0
          · have HNO := Lib.hid (HBAD.out fun h => by have := h.1; omega)
            go_wp2_with fail
            go_ret
            exact ⟨by rw [HNO.out]; rfl, HB.out⟩
          by_cases h3 : k = s
          · have q1 : ((k : Int) == (s : Int)) = true := by rw [h3]; exact beq_self_eq_true _
            have q3 : ((k : Int) != (s : Int)) = false := by rw [h3]; exact bne_self_eq_false _
            by_cases h4 : z = 0
            · have q2 : (z != 0) = false := by rw [h4]; rfl
              have HY := Lib.hid (HNX.out ⟨by omega, fun _ => h4, fun h => absurd h3 h⟩)
              clear h3 h4
              go_wp2_with fail
              go_roundw
              case rel => exact ⟨k + 1, by omega, by go_num, HY.out, HG.out, HB.out⟩
              case measure => simp [intOf]; omega
            · have q2 : (z != 0) = true := by rw [bne_iff_ne]; exact h4
              have HNO := Lib.hid (HBAD.out fun h => h4 (h.2.1 h3))
              clear h3 h4
              go_wp2_with fail
              go_ret
              exact ⟨by rw [HNO.out]; rfl, HB.out⟩
          · have q1 : ((k : Int) == (s : Int)) = false := by rw [beq_eq_false_iff_ne]; omega
            have q3 : ((k : Int) != (s : Int)) = true := by rw [bne_iff_ne]; omega
            by_cases h4 : (d : Int) ≤ z
            · have HNO := Lib.hid (HBAD.out fun h => by
                have h5 := h.2.2 h3
                dsimp only at h5
                rw [← HD.out] at h5
                omega)
              clear h3
              go_wp2_with fail
              go_ret
              exact ⟨by rw [HNO.out]; rfl, HB.out⟩
            · have HY := Lib.hid (HNX.out ⟨by omega, fun h => absurd h h3, fun _ => by dsimp only; rw [← HD.out]; omega⟩)
              clear h3
              go_wp2_with fail
              go_roundw
              case rel => exact ⟨k + 1, by omega, by go_num, HY.out, HG.out, HB.out⟩
              case measure => simp [intOf]; omega
        · obtain rfl : k = p := by omega
          have hk2 : ¬ (k : Int) < (k : Int) := by omega
          have HNO : Hid (sfault (k : Int) m f (s : Int) sz = 0) := sfault_ok HF.out (by omega) (by have := HLP.out; omega) (by rw [Int.toNat_natCast, Int.toNat_natCast]; exact HALL.out)
          go_wp2_with fail
          go_ret
          exact ⟨by rw [HNO.out]; rfl, HB.out⟩
    · have hle : ((sn : Int) != (p : Int)) = true := by rw [bne_iff_ne]; omega
      have HNO : Hid (sfault (p : Int) m f (s : Int) sz = 3) := sfault_l HF.out (by omega) (by rw [HSL.out]; omega)
      clear hl
      go_wp2_with fail
      go_ret
      exact ⟨by rw [HNO.out]; rfl, HB.out⟩
  · have HNO := Lib.hid (sfault_g (sink := sink) (sz := sz) hf)
    obtain ⟨z, hz⟩ : ∃ z, z = gfault P m f := ⟨_, rfl⟩
    rw [← hz] at HNO hf ⊢
    have q1 : (z != 0) = true := by rw [bne_iff_ne]; exact hf
    clear hz
    go_wp2_with fail
    go_ret
    exact ⟨by rw [HNO.out]; rfl, HB.out⟩
end Rt
end Go.Proofs.YtjikildiblchpaaDoor
