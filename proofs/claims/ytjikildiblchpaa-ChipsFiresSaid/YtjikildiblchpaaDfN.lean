/- WALK of the document's answer: edenref6.Burns. -/
import Derived.Test.YtjikildiblchpaaDfO
import Derived.Test.YtjikildiblchpaaChR2
namespace Go.Proofs.Ytjikildiblchpaa
set_option linter.unusedSimpArgs false
set_option linter.unusedVariables false
open Go.RowKit Go.Lib
namespace Ch
open Tld Mem Rt

theorem not_upd {F : Nat → Bool} {k : Nat} : (fun j => !(updB F k false j)) = setB (fun j => !F j) k true := funext fun j => by
  unfold updB setB
  by_cases e : j = k
  · rw [if_pos e, if_pos e]; rfl
  · rw [if_neg e, if_neg e]
theorem out_not {P : Nat} {w : Nat → Nat → Nat} {F : Nat → Bool} {k : Nat} : outS P w F k = inS P w (fun j => !F j) k := by
  rw [← inS_not]
  congr 1
  exact funext fun j => by simp

set_option maxHeartbeats 8000000 in
set_option maxRecDepth 1000000 in
theorem burns_any (p : Nat) (ea : Option Addr) (m ec : Nat) (f : Nat → Nat → Int) (da : Option Addr) (dc : Nat) (zs : List Int) (a : Nat) (w : World) (hE : Mem.Rows w ea m 3 (fun i j => .int .i64 (f i j))) (hok : GOk p m f) (hD : Ints.Is w da p zs) (ha : a < p) :
    Calls Try.prog 14 #[.agg #[.int .i64 (p : Int), .slice ea m ec], .slice da p dc, .int .i64 (a : Int)] w fun e w' => ∃ (b : Nat) (F : Nat → Bool), e = .returned (.slice (some ⟨b, 0, none⟩) p p) ∧ w.heap.size ≤ b ∧ VecB w' b p F ∧ Burn p (fun a b => btw f a b m) (fun k => zs.getD k 0) a (fun j => !F j) ∧ (∀ k, k < p → F k = true → (outS p (fun a b => btw f a b m) F k : Int) ≤ zs.getD k 0) ∧ Below w.heap.size w w' := by
  have hp10 := hok.p10
  have HE := Lib.hid hE
  have HOK := Lib.hid hok
  have HD := Lib.hid hD
  have hmk := mk_bools p hp10
  clear hE hok hD
  go_enter Try.func14, Try.ntmps14
  go_upto_region 1 with fail
  have hR : Row (w.alloc (.cells #[.int .i64 (p : Int), .slice ea m ec] 24)) w.heap.size 24 [.int .i64 (p : Int), .slice ea m ec] := row_alloc w _ _
  have hB : Below w.heap.size w (w.alloc (.cells #[.int .i64 (p : Int), .slice ea m ec] 24)) := (Below.refl _ _).alloc (Nat.le_refl _) _
  have HG := Lib.hid hR
  have HB := Lib.hid hB
  clear hR hB
  generalize w.alloc (.cells #[.int .i64 (p : Int), .slice ea m ec] 24) = w1 at *
  have g0 := HG.out.cell 0
  dsimp only [List.getElem?_cons_zero] at g0
  go_upto_region 2 with fail
  have HS0 := Lib.hid (vecB_made w1 p)
  have hal : Below w1.heap.size w1 (w1.alloc (.cells (Array.replicate p (Value.bool false)) 4)) := (Below.refl _ _).alloc (Nat.le_refl _) _
  have HG1 := Lib.hid (HG.out.keep hal HG.out.lt)
  have HB1 := Lib.hid (HB.out.trans (hal.mono HB.out.size))
  have hbw : w.heap.size ≤ w1.heap.size := HB.out.size
  obtain ⟨bs, hbse⟩ : ∃ b, b = w1.heap.size := ⟨_, rfl⟩
  rw [← hbse] at HS0 hbw
  rw [← hbse]
  clear hal hmk hbse HG HB g0
  generalize w1.alloc (.cells (Array.replicate p (Value.bool false)) 4) = w2 at *
  go_wp2_with fail
  go_loopw [8] (fun z wr => ∃ k : Nat, k ≤ p ∧ z = .int .i64 (k : Int) ∧ VecB wr bs p (fun j => if j < k then decide (j ≠ a) else false) ∧ Row wr w.heap.size 24 [.int .i64 (p : Int), .slice ea m ec] ∧ Below w.heap.size w wr) (fun z _ => p - (intOf z).toNat)
  case atStart => exact ⟨0, Nat.zero_le _, rfl, HS0.out.congr fun j hj => by rw [if_neg (Nat.not_lt_zero _)], HG1.out, HB1.out⟩
  case round =>
    clear HS0 HG1 HB1
    obtain ⟨k, hkp, rfl, hs, hg, hb⟩ := hrel
    have HS := Lib.hid hs
    have HG := Lib.hid hg
    have HB := Lib.hid hb
    have g0 := hg.cell 0
    dsimp only [List.getElem?_cons_zero] at g0
    clear hs hg hb
    have hne : w.heap.size ≠ bs := by
      obtain ⟨c1, h1, _⟩ := HS.out.row
      exact row_ne HG.out h1 (by decide)
    by_cases hk : k < p
    · have hk2 : (k : Int) < (p : Int) := by omega
      have s1 := HS.out.cell hk
      have s2 := HS.out.frozen k
      have b1 : ((k : Int) != (a : Int)) = decide (k ≠ a) := by
        by_cases h : k = a
        · rw [h, decide_eq_false (fun x => x rfl)]; exact bne_self_eq_false _
        · rw [decide_eq_true h, bne_iff_ne]; omega
      have o1 := only_setCell wr bs k (.bool (decide (k ≠ a)))
      have HS2 := Lib.hid ((HS.out.set hk (decide (k ≠ a))).congr (G := fun j => if j < k + 1 then decide (j ≠ a) else false) fun j hj => by
        by_cases e : j = k
        · rw [e, updB_at, if_pos (by omega)]
        · rw [updB_no e]
          by_cases e2 : j < k
          · rw [if_pos e2, if_pos (by omega)]
          · rw [if_neg e2, if_neg (by omega)])
      have HG2 := Lib.hid (HG.out.other o1 hne)
      have HB2 := Lib.hid (HB.out.trans (o1.below hbw))
      clear o1 hne
      obtain ⟨q, hq⟩ : ∃ q, q = decide (k ≠ a) := ⟨_, rfl⟩
      rw [← hq] at b1 HS2 HG2 HB2
      clear hq
      go_wp2_with fail
      go_roundw
      case rel => exact ⟨k + 1, by omega, by go_num, HS2.out, HG2.out, HB2.out⟩
      case measure => simp [intOf]; omega
    · obtain rfl : k = p := by omega
      have HS := Lib.hid (HS.out.congr (G := fun j => decide (j ≠ a)) fun j hj => by rw [if_pos hj])
      have HBN : Hid (Burn k (fun a b => btw f a b m) (fun k => zs.getD k 0) a (fun j => !decide (j ≠ a))) := by
        have h := Burn.start (P := k) (w := fun a b => btw f a b m) (D := fun k => zs.getD k 0) (a := a)
        have e : (fun j => !decide (j ≠ a)) = fun j => decide (j = a) := funext fun j => by
          by_cases e : j = a
          · rw [decide_eq_false (fun x => x e), decide_eq_true e]; rfl
          · rw [decide_eq_true e, decide_eq_false e]; rfl
        rw [e]; exact h
      obtain ⟨p, rfl⟩ : ∃ q, q = k := ⟨_, rfl⟩
      go_wp2_with fail
      go_loopg [9] (2 * (p - cntB p (fun j => !decide (j ≠ a))) + 1) (fun g z wr => ∃ (q : Bool) (F : Nat → Bool), z = .bool q ∧ Burn p (fun a b => btw f a b m) (fun k => zs.getD k 0) a (fun j => !F j) ∧ VecB wr bs p F ∧ Row wr w.heap.size 24 [.int .i64 (p : Int), .slice ea m ec] ∧ Below w.heap.size w wr ∧ (q = false → ∀ k, k < p → F k = true → (outS p (fun a b => btw f a b m) F k : Int) ≤ zs.getD k 0) ∧ g = 2 * (p - cntB p (fun j => !F j)) + (if q = true then 1 else 0))
      case atStart => exact ⟨true, _, rfl, HBN.out, HS.out, HG.out, HB.out, fun h => (by cases h), rfl⟩
      case round =>
        clear HS HBN HG HB g0 hne
        obtain ⟨q, F, rfl, hbn, hs, hg, hb, hz, hgk⟩ := hrel
        have HBN := Lib.hid hbn
        have HS := Lib.hid hs
        have HG := Lib.hid hg
        have HB := Lib.hid hb
        have HZ := Lib.hid hz
        have HGK := Lib.hid hgk
        clear hbn hs hg hb hz hgk
        cases q
        case false =>
          go_wp2_with fail
          go_ret
          exact ⟨bs, rfl, hbw, F, HS.out, HBN.out, HZ.out (by trivial), HB.out⟩
        case true =>
          go_wp2_with fail
          go_loopw [9, 10] (fun y z wr => ∃ (q : Bool) (k : Nat) (c : Nat → Bool), k ≤ p ∧ z = .int .i64 (k : Int) ∧ y = .bool q ∧ Burn p (fun a b => btw f a b m) (fun k => zs.getD k 0) a (fun j => !c j) ∧ VecB wr bs p c ∧ Row wr w.heap.size 24 [.int .i64 (p : Int), .slice ea m ec] ∧ Below w.heap.size w wr ∧ (q = false → c = F ∧ ∀ j, j < k → c j = true → (outS p (fun a b => btw f a b m) c j : Int) ≤ zs.getD j 0) ∧ (q = true → cntB p (fun j => !F j) + 1 ≤ cntB p (fun j => !c j))) (fun _ z _ => p - (intOf z).toNat)
          case atStart => exact ⟨false, 0, F, Nat.zero_le _, rfl, rfl, HBN.out, HS.out, HG.out, HB.out, fun _ => ⟨rfl, fun j hj => absurd hj (Nat.not_lt_zero _)⟩, fun h => (by cases h)⟩
          case round =>
            clear HS HG HB HBN HZ
            obtain ⟨q, k, c, hkp, rfl, rfl, hbn, hs, hg, hb, hz, hm⟩ := hrel
            have HBN := Lib.hid hbn
            have HS := Lib.hid hs
            have HG := Lib.hid hg
            have HB := Lib.hid hb
            have HZ := Lib.hid hz
            have HM := Lib.hid hm
            have g0 := hg.cell 0
            dsimp only [List.getElem?_cons_zero] at g0
            clear hbn hs hg hb hz hm
            by_cases hk : k < p
            · have hk2 : (k : Int) < (p : Int) := by omega
              have s1 := HS.out.cell hk
              have HCT : Hid (c k = true → cntB p (fun j => !(updB c k false j)) = cntB p (fun j => !c j) + 1) := fun h => by
                show _ = _
                rw [not_upd]
                exact cntB_add hk (show (!c k) = false by rw [h]; rfl)
              have HNX : Hid ((c k = true → (outS p (fun a b => btw f a b m) c k : Int) ≤ zs.getD k 0) → q = false → c = F ∧ ∀ j, j < k + 1 → c j = true → (outS p (fun a b => btw f a b m) c j : Int) ≤ zs.getD j 0) := fun h hq => ⟨(HZ.out hq).1, fun j hj hc => by
                by_cases e : j = k
                · rw [e] at hc ⊢; exact h hc
                · exact (HZ.out hq).2 j (by omega) hc⟩
              obtain ⟨ck, hck⟩ : ∃ z, z = c k := ⟨_, rfl⟩
              rw [← hck] at s1 HCT HNX
              clear hck
              cases ck
              case false =>
                have HN2 := Lib.hid (HNX.out fun h => (by cases h))
                go_wp2_with fail
                go_roundw
                case rel => exact ⟨q, k + 1, c, by omega, by go_num, rfl, HBN.out, HS.out, HG.out, HB.out, HN2.out, HM.out⟩
                case measure => simp [intOf]; omega
              case true =>
                have l1 := row_range HG.out
                go_wp2_with (refine wpList_load_mid rfl 24 _ rfl w.heap.size 0 rfl _ _ l1 Try.underlying24 rfl infoGraph ?_)
                clear l1
                refine (outer_any p ea m ec f k bs p c false wr (rows_keep HE.out HB.out) HOK.out.m40 HOK.out.edge hp10 HS.out).mono ?_
                rintro e1 w4 ⟨rfl, hb4⟩
                have HS4 := Lib.hid (HS.out.keep hb4 HS.out.lt)
                have HG4 := Lib.hid (HG.out.keep hb4 HG.out.lt)
                have HB4 := Lib.hid (HB.out.trans (hb4.mono HB.out.size))
                clear hb4 HS HG HB s1 g0
                rw [outN_out ((gr_of HOK.out).own k)]
                have g0 := HG4.out.cell 0
                dsimp only [List.getElem?_cons_zero] at g0
                obtain ⟨bz, oz, rfl, _, hcz⟩ := (HD.out.keep HB4.out).cells k hk
                dsimp only at hcz
                have HST : Hid (zs.getD k 0 < (outS p (fun a b => btw f a b m) c k : Int) → Burn p (fun a b => btw f a b m) (fun k => zs.getD k 0) a (fun j => !(updB c k false j))) := fun h => by
                  show Burn _ _ _ _ _
                  rw [not_upd]
                  exact HBN.out.step hk (by rw [← out_not]; exact h)
                obtain ⟨n, hn⟩ : ∃ n, n = outS p (fun a b => btw f a b m) c k := ⟨_, rfl⟩
                rw [← hn] at HNX HST ⊢
                clear hn
                obtain ⟨dk, hdk⟩ : ∃ z, z = zs.getD k 0 := ⟨_, rfl⟩
                rw [← hdk] at hcz HST HNX
                clear hdk
                by_cases hlt : dk < (n : Int)
                · have HB2 := Lib.hid (HST.out hlt)
                  have HC2 := Lib.hid (HCT.out (by trivial))
                  have z1 := HS4.out.frozen k
                  have s1 := HS4.out.cell hk
                  have hne : w.heap.size ≠ bs := by
                    obtain ⟨c1, h1, _⟩ := HS4.out.row
                    exact row_ne HG4.out h1 (by decide)
                  have o1 := only_setCell w4 bs k (.bool false)
                  have HS2 := Lib.hid (HS4.out.set hk false)
                  have HG2 := Lib.hid (HG4.out.other o1 hne)
                  have HBB := Lib.hid (HB4.out.trans (o1.below hbw))
                  have HM2 : Hid (cntB p (fun j => !F j) + 1 ≤ cntB p (fun j => !(updB c k false j))) := by
                    show _ ≤ _
                    rw [HC2.out]
                    cases q
                    · rw [(HZ.out (by trivial)).1]; omega
                    · have := HM.out (by trivial); omega
                  clear o1 hne
                  go_wp2_with fail
                  go_roundw
                  case rel => exact ⟨true, k + 1, updB c k false, by omega, by go_num, rfl, HB2.out, HS2.out, HG2.out, HBB.out, fun h => (by cases h), fun _ => HM2.out⟩
                  case measure => simp [intOf]; omega
                · have HN2 := Lib.hid (HNX.out fun _ => by omega)
                  go_wp2_with fail
                  go_roundw
                  case rel => exact ⟨q, k + 1, c, by omega, by go_num, rfl, HBN.out, HS4.out, HG4.out, HB4.out, HN2.out, HM.out⟩
                  case measure => simp [intOf]; omega
            · obtain rfl : k = p := by omega
              go_wp2_with fail
              go_roundg (2 * (k - cntB k (fun j => !c j)) + (if q = true then 1 else 0))
              case measure =>
                have h1 := HGK.out
                have hc1 := cntB_le (P := k) (b := fun j => !c j)
                cases q
                · have h2 := (HZ.out rfl).1
                  rw [h2, if_neg (by decide)]; rw [if_pos trivial] at h1; omega
                · have h2 := HM.out rfl
                  rw [if_pos rfl]; rw [if_pos trivial] at h1; omega
              case rel => exact ⟨q, c, rfl, HBN.out, HS.out, HG.out, HB.out, fun h => (HZ.out h).2, rfl⟩
end Ch
end Go.Proofs.Ytjikildiblchpaa
