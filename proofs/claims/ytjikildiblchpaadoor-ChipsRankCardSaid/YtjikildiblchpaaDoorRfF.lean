/- WALK of the document's answer: edenref6.Fault. -/
import Derived.Test.YtjikildiblchpaaDoorRfV
import Derived.Test.YtjikildiblchpaaDoorGfP
import Derived.Test.YtjikildiblchpaaDoorRfPl
namespace Go.Proofs.YtjikildiblchpaaDoor
set_option linter.unusedSimpArgs false
set_option linter.unusedVariables false
open Go.RowKit Go.Lib
namespace Rt
open Tld Mem

theorem stepE_no {f : Nat → Nat → Int} {i : Nat} {g : Nat → Bool} (ha : g (eA f i) = false) (hb : g (eB f i) = false) (k : Nat) : g k = stepE f i g k := by unfold stepE; rw [ha, hb]; simp
theorem stepE_yes {f : Nat → Nat → Int} {i : Nat} {g : Nat → Bool} (h : g (eA f i) = true ∨ g (eB f i) = true) (k : Nat) : updB (updB g (eA f i) true) (eB f i) true k = stepE f i g k := by
  have h1 : (g (eA f i) || g (eB f i)) = true := by rw [Bool.or_eq_true]; exact h
  unfold stepE updB
  rw [h1]
  by_cases e2 : k = eB f i
  · rw [if_pos e2, decide_eq_true e2]; simp
  · rw [if_neg e2, decide_eq_false e2]
    by_cases e1 : k = eA f i
    · rw [if_pos e1, decide_eq_true e1]; simp
    · rw [if_neg e1, decide_eq_false e1]; simp
set_option maxHeartbeats 8000000 in
set_option maxRecDepth 1000000 in
theorem fault_any (P : Int) (ea : Option Addr) (m ec : Nat) (f : Nat → Nat → Int) (w : World) (hE : Mem.Rows w ea m 3 (fun i j => .int .i64 (f i j))) (hm : m ≤ 9223372036854775807) :
    Calls Tryd.prog 17 #[.agg #[.int .i64 P, .slice ea m ec]] w fun e w' => e = .returned (.int .i64 (gfault P m f)) ∧ Below w.heap.size w w' := by
  have HER := Lib.hid hE
  clear hE
  go_enter Tryd.func17, Tryd.ntmps17
  go_upto_region 1 with fail
  have hR : Row (w.alloc (.cells #[.int .i64 P, .slice ea m ec] 24)) w.heap.size 24 [.int .i64 P, .slice ea m ec] := row_alloc w _ _
  have hB : Below w.heap.size w (w.alloc (.cells #[.int .i64 P, .slice ea m ec] 24)) := (Below.refl _ _).alloc (Nat.le_refl _) _
  have HG := Lib.hid hR
  have HB := Lib.hid hB
  clear hR hB
  generalize w.alloc (.cells #[.int .i64 P, .slice ea m ec] 24) = w1 at *
  obtain ⟨bg, hbg⟩ : ∃ bg, bg = w.heap.size := ⟨_, rfl⟩
  rw [← hbg] at HG ⊢
  have hlg : w.heap.size ≤ bg := by omega
  clear hbg
  have g0 := HG.out.cell 0
  have g1 := HG.out.cell 1
  dsimp only [List.getElem?_cons_succ, List.getElem?_cons_zero] at g0 g1
  by_cases hlow : P < 1
  · have hg : gfault P m f = 1 := gfault_range (.inl hlow)
    have HNO := Lib.hid hg
    have d0 : decide (P < 1) = true := decide_eq_true hlow
    clear hg
    go_wp2_with fail
    go_ret
    exact ⟨by rw [HNO.out]; rfl, HB.out⟩
  by_cases hhigh : 10 < P
  · have hg : gfault P m f = 1 := gfault_range (.inr hhigh)
    have HNO := Lib.hid hg
    clear hg
    go_wp2_with fail
    go_ret
    exact ⟨by rw [HNO.out]; rfl, HB.out⟩
  have hr : ¬ (P < 1 ∨ 10 < P) := fun h => h.elim hlow hhigh
  by_cases hfull : 40 < m
  · have hg : gfault P m f = 4 := gfault_full hr hfull
    have hfi : (40 : Int) < (m : Int) := by omega
    have HNO := Lib.hid hg
    clear hg hr
    go_wp2_with fail
    go_ret
    exact ⟨by rw [HNO.out]; rfl, HB.out⟩
  have hfi : ¬ (40 : Int) < (m : Int) := by omega
  obtain ⟨p, rfl⟩ : ∃ p : Nat, P = (p : Int) := ⟨P.toNat, by omega⟩
  have HR := Lib.hid hr
  have HFU := Lib.hid hfull
  have hp1 : 1 ≤ p := by omega
  have hp10 : p ≤ 10 := by omega
  clear hr
  go_wp2_with fail
  clear hlow hhigh hfull hfi
  go_loopw [3] (fun u wr => ∃ i : Nat, i ≤ m ∧ u = .int .i64 (i : Int) ∧ (∀ j, j < i → EdgeOk (p : Int) f j) ∧ Row wr bg 24 [.int .i64 (p : Int), .slice ea m ec] ∧ Below w.heap.size w wr) (fun u _ => m - (intOf u).toNat)
  case atStart => exact ⟨0, Nat.zero_le _, rfl, fun j hj => absurd hj (Nat.not_lt_zero _), HG.out, HB.out⟩
  case round =>
    clear HG HB g0 g1
    obtain ⟨i, him, rfl, hok', hg, hb⟩ := hrel
    have HOK := Lib.hid hok'
    have HG := Lib.hid hg
    have HB := Lib.hid hb
    have g0 := hg.cell 0
    have g1 := hg.cell 1
    dsimp only [List.getElem?_cons_succ, List.getElem?_cons_zero] at g0 g1
    clear hok' hg hb
    by_cases hlt : i < m
    · --{ROUND
      obtain ⟨b, off, rfl, hbl, hrest⟩ := HER.out i hlt
      clear hrest
      have l1 := edges_range (fun i hi => by
        obtain ⟨b', o', e, h1, h2⟩ := HER.out i hi
        exact ⟨b', o', e, Nat.lt_of_lt_of_le h1 HB.out.size, fun j hj => by rw [HB.out.cell h1]; exact h2 j hj⟩) hlt (w := wr) (b := b) (off := off)
      have hi2 : (i : Int) < (m : Int) := by omega
      obtain ⟨A, hA⟩ : ∃ A, A = f i 0 := ⟨_, rfl⟩
      obtain ⟨Bq, hBq⟩ : ∃ Bq, Bq = f i 1 := ⟨_, rfl⟩
      obtain ⟨T, hT⟩ : ∃ T, T = f i 2 := ⟨_, rfl⟩
      rw [← hA, ← hBq, ← hT] at l1
      have HA := Lib.hid hA
      have HBQ := Lib.hid hBq
      have HT := Lib.hid hT
      clear hA hBq hT
      have hrow : Row (wr.alloc (.cells #[.int .i64 A, .int .i64 Bq, .int .i64 T] 74)) wr.heap.size 74 [.int .i64 A, .int .i64 Bq, .int .i64 T] := row_alloc wr _ _
      have hbn2 : Below wr.heap.size wr (wr.alloc (.cells #[.int .i64 A, .int .i64 Bq, .int .i64 T] 74)) := (Below.refl _ _).alloc (Nat.le_refl _) _
      go_upto_region 9 with (refine wpList_load_mid rfl 74 _ rfl b (off + i * 3) rfl _ _ l1 Tryd.underlying74 rfl infoEdge ?_)
      have HG := Lib.hid (HG.out.keep hbn2 HG.out.lt)
      have HB := Lib.hid (HB.out.trans (hbn2.mono HB.out.size))
      have g0 := HG.out.cell 0
      have g1 := HG.out.cell 1
      have e0 := hrow.cell 0
      have e1 := hrow.cell 1
      have e2 := hrow.cell 2
      dsimp only [List.getElem?_cons_succ, List.getElem?_cons_zero] at g0 g1 e0 e1 e2
      clear hbn2 hrow l1
      generalize wr.alloc (.cells #[.int .i64 A, .int .i64 Bq, .int .i64 T] 74) = w2 at *
      have HBAD : Hid (¬ EdgeOk (p : Int) f i → gfault (p : Int) m f = 1) := fun h => gfault_edge HR.out HFU.out hlt h
      have HNX : Hid (EdgeOk (p : Int) f i → ∀ j, j < i + 1 → EdgeOk (p : Int) f j) := fun h j hj => by
        by_cases e : j = i
        · rw [e]; exact h
        · exact HOK.out j (by omega)
      by_cases h1 : A < 0
      · have hno : gfault (p : Int) m f = 1 := HBAD.out fun h => by have := h.1; rw [← HA.out] at this; omega
        have HNO := Lib.hid hno
        clear hno
        go_wp2_with fail
        go_ret
        exact ⟨by rw [HNO.out]; rfl, HB.out⟩
      by_cases h2 : (p : Int) ≤ A
      · have hno : gfault (p : Int) m f = 1 := HBAD.out fun h => by have := h.2.1; rw [← HA.out] at this; omega
        have HNO := Lib.hid hno
        clear hno
        go_wp2_with fail
        go_ret
        exact ⟨by rw [HNO.out]; rfl, HB.out⟩
      by_cases h3 : Bq < 0
      · have hno : gfault (p : Int) m f = 1 := HBAD.out fun h => by have := h.2.2.1; rw [← HBQ.out] at this; omega
        have HNO := Lib.hid hno
        clear hno
        go_wp2_with fail
        go_ret
        exact ⟨by rw [HNO.out]; rfl, HB.out⟩
      by_cases h4 : (p : Int) ≤ Bq
      · have hno : gfault (p : Int) m f = 1 := HBAD.out fun h => by have := h.2.2.2.1; rw [← HBQ.out] at this; omega
        have HNO := Lib.hid hno
        clear hno
        go_wp2_with fail
        go_ret
        exact ⟨by rw [HNO.out]; rfl, HB.out⟩
      obtain ⟨q3, hq3⟩ : ∃ q, q = (A == Bq) := ⟨_, rfl⟩
      have d3 := hq3.symm
      have HQ3 := Lib.hid hq3
      clear hq3
      cases q3
      case true =>
        have hno : gfault (p : Int) m f = 1 := HBAD.out fun h => h.2.2.2.2.1 (by rw [← HA.out, ← HBQ.out]; exact eq_of_beq HQ3.out.symm)
        have HNO := Lib.hid hno
        clear hno
        go_wp2_with fail
        go_ret
        exact ⟨by rw [HNO.out]; rfl, HB.out⟩
      by_cases h5 : T < 1
      · have hno : gfault (p : Int) m f = 1 := HBAD.out fun h => by have := h.2.2.2.2.2.1; rw [← HT.out] at this; omega
        have HNO := Lib.hid hno
        clear hno
        go_wp2_with fail
        go_ret
        exact ⟨by rw [HNO.out]; rfl, HB.out⟩
      by_cases h6 : 100 < T
      · have hno : gfault (p : Int) m f = 1 := HBAD.out fun h => by have := h.2.2.2.2.2.2; rw [← HT.out] at this; omega
        have HNO := Lib.hid hno
        clear hno
        go_wp2_with fail
        go_ret
        exact ⟨by rw [HNO.out]; rfl, HB.out⟩
      have hyes : EdgeOk (p : Int) f i := by
        have h7 := HQ3.out.symm
        rw [beq_eq_false_iff_ne] at h7
        rw [HA.out] at h1 h2 h7
        rw [HBQ.out] at h3 h4 h7
        rw [HT.out] at h5 h6
        exact ⟨by omega, by omega, by omega, by omega, h7, by omega, by omega⟩
      have HY := Lib.hid (HNX.out hyes)
      clear hyes
      go_wp2_with fail
      go_roundw
      case rel => exact ⟨i + 1, by omega, by go_num, HY.out, HG.out, HB.out⟩
      case measure => simp [intOf]; omega
      --}
    · --{END
      obtain rfl : i = m := by omega
      have HEN : Hid (∀ j, j < i → EdgeN p f j) := fun j hj => (HOK.out j hj).nat
      have hmk := mk_bools p hp10
      have hrow0 := vecB_made wr p
      have hbn0 : Below wr.heap.size wr (wr.alloc (.cells (Array.replicate p (Value.bool false)) 4)) := (Below.refl _ _).alloc (Nat.le_refl _) _
      have HV := Lib.hid hrow0
      have HBN := Lib.hid hbn0
      clear hrow0 hbn0
      go_upto_region 12 with fail
      have hlw : bg < wr.heap.size := HG.out.lt
      have HG := Lib.hid (HG.out.keep HBN.out HG.out.lt)
      have HB := Lib.hid (HB.out.trans (HBN.out.mono HB.out.size))
      obtain ⟨bi, hbi⟩ : ∃ bi, bi = wr.heap.size := ⟨_, rfl⟩
      rw [← hbi] at HV hlw ⊢
      have hlow : w.heap.size ≤ bi := by omega
      clear HBN hbi hmk g0 g1
      generalize wr.alloc (.cells (Array.replicate p (Value.bool false)) 4) = w2 at *
      have v0 := HV.out.cell (k := 0) (by omega)
      have v1 := HV.out.frozen 0
      have hzp : (0 : Int) < (p : Int) := by omega
      go_upto_region 13 with fail
      have ho := only_setCell w2 bi 0 (.bool true)
      have HVN := Lib.hid ((HV.out.set (i := 0) (by omega) true).congr (G := fillE f i 0) fun k hk => by
        unfold updB fillE
        by_cases e : k = 0
        · rw [if_pos e, decide_eq_true e]
        · rw [if_neg e, decide_eq_false e])
      have HGN := Lib.hid (HG.out.other ho (by omega))
      have HBN := Lib.hid (HB.out.trans (ho.below (by omega)))
      clear ho HV HG HB v0 v1
      generalize w2.setCell ⟨bi, 0, none⟩ (.bool true) = w3 at *
      go_wp2_with fail
      go_loopw [6] (fun u wr => ∃ n : Nat, n ≤ p ∧ u = .int .i64 (n : Int) ∧ VecB wr bi p (fillE f i n) ∧ Row wr bg 24 [.int .i64 (p : Int), .slice ea i ec] ∧ Below w.heap.size w wr) (fun u _ => p - (intOf u).toNat)
      case atStart => exact ⟨0, Nat.zero_le _, rfl, HVN.out, HGN.out, HBN.out⟩
      case round =>
        clear HVN HGN HBN
        obtain ⟨n, hnp, rfl, hv, hg, hb⟩ := hrel
        have HV := Lib.hid hv
        have HG := Lib.hid hg
        have HB := Lib.hid hb
        have g0 := hg.cell 0
        have g1 := hg.cell 1
        dsimp only [List.getElem?_cons_succ, List.getElem?_cons_zero] at g0 g1
        clear hv hg hb
        by_cases hn : n < p
        · --{FILL
          have hn2 : (n : Int) < (p : Int) := by omega
          go_upto_region 17 with fail
          go_loopw [7] (fun u wr => ∃ k : Nat, k ≤ i ∧ u = .int .i64 (k : Int) ∧ VecB wr bi p (rndE f k (fillE f i n)) ∧ Row wr bg 24 [.int .i64 (p : Int), .slice ea i ec] ∧ Below w.heap.size w wr) (fun u _ => i - (intOf u).toNat)
          case atStart => exact ⟨0, Nat.zero_le _, rfl, HV.out, HG.out, HB.out⟩
          case round =>
            clear HV HG HB g0 g1
            obtain ⟨k, hki, rfl, hv, hg, hb⟩ := hrel
            have HV := Lib.hid hv
            have HG := Lib.hid hg
            have HB := Lib.hid hb
            have g0 := hg.cell 0
            have g1 := hg.cell 1
            dsimp only [List.getElem?_cons_succ, List.getElem?_cons_zero] at g0 g1
            clear hv hg hb
            by_cases hk : k < i
            · --{EDGE
              obtain ⟨b, off, rfl, hbl, hrest⟩ := HER.out k hk
              clear hrest
              have l1 := edges_range (fun i hi => by
                obtain ⟨b', o', e, h1, h2⟩ := HER.out i hi
                exact ⟨b', o', e, Nat.lt_of_lt_of_le h1 HB.out.size, fun j hj => by rw [HB.out.cell h1]; exact h2 j hj⟩) hk (w := wr) (b := b) (off := off)
              have hk2 : (k : Int) < (i : Int) := by omega
              have hN := HEN.out k hk
              rw [hN.a, hN.b] at l1
              have al := hN.al
              have cl := hN.bl
              obtain ⟨T, hT⟩ : ∃ T, T = f k 2 := ⟨_, rfl⟩
              rw [← hT] at l1
              have HS0 := Lib.hid (stepE_no (f := f) (i := k) (g := rndE f k (fillE f i n)))
              have HS1 := Lib.hid (stepE_yes (f := f) (i := k) (g := rndE f k (fillE f i n)))
              have HRN : Hid (∀ x, rndE f (k + 1) (fillE f i n) x = stepE f k (rndE f k (fillE f i n)) x) := fun x => rfl
              obtain ⟨g, hg⟩ : ∃ g, g = rndE f k (fillE f i n) := ⟨_, rfl⟩
              rw [← hg] at HS0 HS1 HV HRN
              obtain ⟨a, ha⟩ : ∃ a, a = eA f k := ⟨_, rfl⟩
              obtain ⟨c, hc⟩ : ∃ c, c = eB f k := ⟨_, rfl⟩
              rw [← ha, ← hc] at l1 HS0 HS1
              rw [← ha] at al
              rw [← hc] at cl
              clear hN ha hc hg hT
              have al2 : (a : Int) < (p : Int) := by omega
              have cl2 : (c : Int) < (p : Int) := by omega
              have hrow : Row (wr.alloc (.cells #[.int .i64 (a : Int), .int .i64 (c : Int), .int .i64 T] 74)) wr.heap.size 74 [.int .i64 (a : Int), .int .i64 (c : Int), .int .i64 T] := row_alloc wr _ _
              have hbn2 : Below wr.heap.size wr (wr.alloc (.cells #[.int .i64 (a : Int), .int .i64 (c : Int), .int .i64 T] 74)) := (Below.refl _ _).alloc (Nat.le_refl _) _
              go_upto_region 20 with (refine wpList_load_mid rfl 74 _ rfl b (off + k * 3) rfl _ _ l1 Tryd.underlying74 rfl infoEdge ?_)
              have hbi8 : bi < wr.heap.size := HV.out.lt
              have hbg8 : bg < wr.heap.size := HG.out.lt
              have HV := Lib.hid (HV.out.keep hbn2 HV.out.lt)
              have HG := Lib.hid (HG.out.keep hbn2 HG.out.lt)
              have HB := Lib.hid (HB.out.trans (hbn2.mono HB.out.size))
              have HE := Lib.hid hrow
              obtain ⟨b8, hb8⟩ : ∃ b8, b8 = wr.heap.size := ⟨_, rfl⟩
              rw [← hb8] at HE hbi8 hbg8 ⊢
              clear hbn2 hrow l1 hb8
              generalize wr.alloc (.cells #[.int .i64 (a : Int), .int .i64 (c : Int), .int .i64 T] 74) = w2 at *
              have e0 := HE.out.cell 0
              have e1 := HE.out.cell 1
              have va := HV.out.cell al
              have vc := HV.out.cell cl
              have fa := HV.out.frozen a
              have fc := HV.out.frozen c
              dsimp only [List.getElem?_cons_succ, List.getElem?_cons_zero] at e0 e1
              obtain ⟨qa, hqa⟩ : ∃ q, q = g a := ⟨_, rfl⟩
              obtain ⟨qc, hqc⟩ : ∃ q, q = g c := ⟨_, rfl⟩
              rw [← hqa] at va
              rw [← hqc] at vc
              have HQA := Lib.hid hqa
              have HQC := Lib.hid hqc
              clear hqa hqc
              have ho1 := only_setCell w2 bi a (.bool true)
              have ho2 := only_setCell (w2.setCell ⟨bi, a, none⟩ (.bool true)) bi c (.bool true)
              have HYES : Hid (qa = true ∨ qc = true → VecB ((w2.setCell ⟨bi, a, none⟩ (.bool true)).setCell ⟨bi, c, none⟩ (.bool true)) bi p (rndE f (k + 1) (fillE f i n))) := fun h => ((HV.out.set al true).set cl true).congr fun x _ => by
                rw [HRN.out x]
                exact HS1.out (by rw [HQA.out, HQC.out] at h; exact h) x
              have HNO : Hid (qa = false → qc = false → VecB w2 bi p (rndE f (k + 1) (fillE f i n))) := fun h1 h2 => HV.out.congr fun x _ => by
                rw [HRN.out x]
                exact HS0.out (by rw [← HQA.out]; exact h1) (by rw [← HQC.out]; exact h2) x
              have HG2 := Lib.hid ((HG.out.other ho1 (by omega)).other ho2 (by omega))
              have HB2 := Lib.hid ((HB.out.trans (ho1.below (by omega))).trans (ho2.below (by omega)))
              have E1 := Lib.hid ((HE.out.other ho1 (by omega)).cell 1)
              have F1 := Lib.hid ((HV.out.set al true).frozen c)
              have V1 := Lib.hid (HV.out.set al true)
              clear ho1 ho2
              cases qa
              · cases qc
                · go_wp2_with fail
                  go_roundw
                  case rel => exact ⟨k + 1, by omega, by go_num, HNO.out rfl rfl, HG.out, HB.out⟩
                  case measure => simp [intOf]; omega
                · have HYV := Lib.hid (HYES.out (.inr rfl))
                  clear HYES HNO
                  go_upto_region 22 with fail
                  generalize w2.setCell ⟨bi, a, none⟩ (.bool true) = w9 at *
                  have hse1 := E1.out
                  have hfc1 := F1.out
                  have hcc1 := V1.out.cell cl
                  dsimp only [List.getElem?_cons_succ, List.getElem?_cons_zero] at hse1
                  clear e0 e1 va vc fa fc
                  go_wp2_with fail
                  go_roundw
                  case rel => exact ⟨k + 1, by omega, by go_num, HYV.out, HG2.out, HB2.out⟩
                  case measure => simp [intOf]; omega
              · have HYV := Lib.hid (HYES.out (.inl rfl))
                clear HYES HNO
                go_upto_region 22 with fail
                generalize w2.setCell ⟨bi, a, none⟩ (.bool true) = w9 at *
                have hse1 := E1.out
                have hfc1 := F1.out
                have hcc1 := V1.out.cell cl
                dsimp only [List.getElem?_cons_succ, List.getElem?_cons_zero] at hse1
                clear e0 e1 va vc fa fc
                go_wp2_with fail
                go_roundw
                case rel => exact ⟨k + 1, by omega, by go_num, HYV.out, HG2.out, HB2.out⟩
                case measure => simp [intOf]; omega
              --}
            · obtain rfl : k = i := by omega
              go_wp2_with fail
              go_roundw
              case rel => exact ⟨n + 1, by omega, by go_num, HV.out, HG.out, HB.out⟩
              case measure => simp [intOf]; omega
          --}
        · --{CHECK
          obtain rfl : n = p := by omega
          have HCN := Lib.hid (fillE_all HEN.out hp1)
          go_wp2_with fail
          go_loopw [9] (fun u wr => ∃ k : Nat, k ≤ n ∧ u = .int .i64 (k : Int) ∧ (∀ j, j < k → fillE f i n j = true) ∧ Row wr bg 24 [.int .i64 (n : Int), .slice ea i ec] ∧ VecB wr bi n (fillE f i n) ∧ Below w.heap.size w wr) (fun u _ => n - (intOf u).toNat)
          case atStart => exact ⟨0, Nat.zero_le _, rfl, fun j hj => absurd hj (Nat.not_lt_zero _), HG.out, HV.out, HB.out⟩
          case round =>
            clear HV HG HB g0 g1
            obtain ⟨k, hkn, rfl, hall, hg, hv, hb⟩ := hrel
            have HV := Lib.hid hv
            have HB := Lib.hid hb
            have HG := Lib.hid hg
            have HALL := Lib.hid hall
            have g0 := hg.cell 0
            dsimp only [List.getElem?_cons_succ, List.getElem?_cons_zero] at g0
            clear hv hg hb hall
            by_cases hk : k < n
            · have hk2 : (k : Int) < (n : Int) := by omega
              have vk := HV.out.cell hk
              obtain ⟨q, hq⟩ : ∃ q, q = fillE f i n k := ⟨_, rfl⟩
              rw [← hq] at vk
              have HQ := Lib.hid hq
              clear hq
              cases q
              · have hno : gfault (n : Int) i f = 3 := gfault_apart HR.out HFU.out HOK.out (fun h => by
                  rw [Int.toNat_natCast] at h
                  have h2 := HCN.out.1 h k hk
                  rw [← HQ.out] at h2
                  cases h2)
                have HNO := Lib.hid hno
                clear hno
                go_wp2_with fail
                go_ret
                exact ⟨by rw [HNO.out]; rfl, HB.out⟩
              · have HA2 : Hid (∀ j, j < k + 1 → fillE f i n j = true) := fun j hj => by
                  by_cases e : j = k
                  · rw [e]; exact HQ.out.symm
                  · exact HALL.out j (by omega)
                go_wp2_with fail
                go_roundw
                case rel => exact ⟨k + 1, by omega, by go_num, HA2.out, HG.out, HV.out, HB.out⟩
                case measure => simp [intOf]; omega
            · obtain rfl : k = n := by omega
              have hyes : gfault (k : Int) i f = 0 := gfault_ok HR.out HFU.out HOK.out (by
                rw [Int.toNat_natCast]
                exact HCN.out.2 HALL.out)
              have HNO := Lib.hid hyes
              clear hyes
              go_wp2_with fail
              go_ret
              exact ⟨by rw [HNO.out]; rfl, HB.out⟩
          --}
      --}
end Rt
end Go.Proofs.YtjikildiblchpaaDoor
