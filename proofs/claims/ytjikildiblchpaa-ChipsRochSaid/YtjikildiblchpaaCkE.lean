/- WALK: chips.effective: all of a degree by their numbers (a closure that calls itself by its own variable). -/
import Derived.Test.YtjikildiblchpaaCkC
namespace Go.Proofs.Ytjikildiblchpaa
set_option linter.unusedSimpArgs false
set_option linter.unusedVariables false
open Go.RowKit Go.Lib
namespace Ch
open Tld Mem Rt

/-- The variables that the closures share. -/
structure Box (w : World) (xd xn xl xp xy be xe xf P : Nat) (F : Nat → Int) : Prop where
  o1 : xl < xp
  o2 : xp < xy
  o3 : xy < be
  o4 : be < xe
  o5 : xe < xf
  rl : ∃ v, Row w xl 25 [v]
  rp : Row w xp 3 [.int .i64 (P : Int)]
  ry : Row w xy 70 [.func (.func 30) #[] #[.pointer (some ⟨xd, 0, none⟩), .pointer (some ⟨xn, 0, none⟩), .pointer (some ⟨xl, 0, none⟩)]]
  re : Row w xe 25 [.slice (some ⟨be, 0, none⟩) P P]
  rf : Row w xf 82 [.func (.func 42) #[] #[.pointer (some ⟨xp, 0, none⟩), .pointer (some ⟨xe, 0, none⟩), .pointer (some ⟨xy, 0, none⟩), .pointer (some ⟨xf, 0, none⟩)]]
  rv : Vec w be P F
theorem Box.below {w w' : World} {xd xn xl xp xy be xe xf P : Nat} {F : Nat → Int} (h : Box w xd xn xl xp xy be xe xf P F) (k : Below w.heap.size w w') : Box w' xd xn xl xp xy be xe xf P F where
  o1 := h.o1
  o2 := h.o2
  o3 := h.o3
  o4 := h.o4
  o5 := h.o5
  rl := by obtain ⟨v, hv⟩ := h.rl; exact ⟨v, hv.keep k hv.lt⟩
  rp := h.rp.keep k h.rp.lt
  ry := h.ry.keep k h.ry.lt
  re := h.re.keep k h.re.lt
  rf := h.rf.keep k h.rf.lt
  rv := h.rv.keep k h.rv.lt
theorem Box.onlyE {w w' : World} {xd xn xl xp xy be xe xf P : Nat} {F F' : Nat → Int} (h : Box w xd xn xl xp xy be xe xf P F) (k : Only be w w') (hv : Vec w' be P F') : Box w' xd xn xl xp xy be xe xf P F' where
  o1 := h.o1
  o2 := h.o2
  o3 := h.o3
  o4 := h.o4
  o5 := h.o5
  rl := by obtain ⟨v, hr⟩ := h.rl; exact ⟨v, hr.other k (by have := h.o1; have := h.o2; have := h.o3; omega)⟩
  rp := h.rp.other k (by have := h.o2; have := h.o3; omega)
  ry := h.ry.other k (by have := h.o3; omega)
  re := h.re.other k (by have := h.o4; omega)
  rf := h.rf.other k (by have := h.o4; have := h.o5; omega)
  rv := hv
theorem Box.cong {w : World} {xd xn xl xp xy be xe xf P : Nat} {F F' : Nat → Int} (h : Box w xd xn xl xp xy be xe xf P F) (g : ∀ k, k < P → F k = F' k) : Box w xd xn xl xp xy be xe xf P F' := ⟨h.o1, h.o2, h.o3, h.o4, h.o5, h.rl, h.rp, h.ry, h.re, h.rf, h.rv.congr g⟩
/-- What filling from a place on comes to. -/
def FillPost (P : Nat) (E : Nat → Nat → Nat) (zs : List Int) (n : Int) (k : Nat) (F : Nat → Int) (xd xn xl xp xy be xe xf : Nat) (wB : World) (e : Ending) (w' : World) : Prop :=
  ((e = .returned (.bool true) ∧ PreW P n (Tak P E zs) F k ∧ ∃ F', (∀ i, i < k → F' i = F i) ∧ Box w' xd xn xl xp xy be xe xf P F') ∨
   (e = .returned (.bool false) ∧ ∃ (g : Nat → Int) (a : Option Addr) (c : Nat), PreF P n (Tak P E zs) F k g ∧ w'.cell? ⟨xl, 0, none⟩ = some (.slice a P c) ∧ Ints.Is w' a P (lstF P g))) ∧ Below wB.heap.size wB w'

set_option maxHeartbeats 16000000 in
set_option maxRecDepth 1000000 in
theorem fill_any (P : Nat) (E : Nat → Nat → Nat) (Dg : Nat → Nat) (bn : Nat) (da : Option Addr) (dc : Nat) (zs : List Int) (wB : World) (n : Int) (xd xn xl xp xy be xe xf : Nat) (hG : Gr P E) (h0 : 0 < P) (hN : Net wB bn P E Dg)
    (hxd : wB.cell? ⟨xd, 0, none⟩ = some (.slice da P dc)) (hxn : wB.cell? ⟨xn, 0, none⟩ = some (.pointer (some ⟨bn, 0, none⟩))) (hD : Ints.Is wB da P zs) (hz : ∀ k, k < P → -1000 ≤ zs.getD k 0 ∧ zs.getD k 0 ≤ 1000) (hn : n ≤ 100) (hxl : wB.heap.size ≤ xl) :
    ∀ (d k : Nat), k + d + 1 = P → ∀ (F : Nat → Int) (left : Int) (w : World), 0 ≤ left → left = n - sumZ F k → (∀ i, i < k → 0 ≤ F i ∧ F i ≤ 100) → Box w xd xn xl xp xy be xe xf P F → Below wB.heap.size wB w →
    Calls Try.prog 42 #[.int .i64 (k : Int), .int .i64 left, .pointer (some ⟨xp, 0, none⟩), .pointer (some ⟨xe, 0, none⟩), .pointer (some ⟨xy, 0, none⟩), .pointer (some ⟨xf, 0, none⟩)] w (FillPost P E zs n k F xd xn xl xp xy be xe xf wB)
  | d, k, hkd, F, left, w, hl0, hleft, hF, hX, hB => by
    have hP := hG.p10
    have HG := Lib.hid hG
    have HN := Lib.hid hN
    have HXD := Lib.hid hxd
    have HXN := Lib.hid hxn
    have HD := Lib.hid hD
    have HZ := Lib.hid hz
    have HF := Lib.hid hF
    have HX := Lib.hid hX
    have HB := Lib.hid hB
    have HLE := Lib.hid hleft
    have IH := Lib.hid (fun d' (h : d' < d) => fill_any P E Dg bn da dc zs wB n xd xn xl xp xy be xe xf hG h0 hN hxd hxn hD hz hn hxl d')
    have hpre : 0 ≤ sumZ F k := sumZ_nonneg fun i hi => (hF i hi).1
    have hl1 : left ≤ 100 := by omega
    have hw1 : (-9223372036854775808 : Int) ≤ (P : Int) - 1 := by omega
    have hw2 : (P : Int) - 1 ≤ 9223372036854775807 := by omega
    have hkP : k < P := by omega
    have hkP2 : (k : Int) < (P : Int) := by omega
    clear hG hN hxd hxn hD hz hF hX hB hleft
    have p0 := HX.out.rp.cell 0
    have y0 := HX.out.ry.cell 0
    have x0 := HX.out.re.cell 0
    have f0 := HX.out.rf.cell 0
    dsimp only [List.getElem?_cons_zero] at p0 y0 x0 f0
    cases d with
    | zero =>
      have b1 : ((k : Int) == (P : Int) - 1) = true := by rw [beq_iff_eq]; omega
      have k1 := HX.out.rv.cell hkP
      have k2 := HX.out.rv.frozen k
      go_enter Try.func42, Try.ntmps42
      go_upto_region 3 with fail
      have ho := only_setCell w be k (.int .i64 left)
      have HX2 := Lib.hid (HX.out.onlyE ho (HX.out.rv.set hkP left))
      have HB2 := Lib.hid (HB.out.trans (ho.below (by have := HX.out.o1; have := HX.out.o2; have := HX.out.o3; omega)))
      clear ho p0 y0 x0 f0 k1 k2 b1
      generalize w.setCell ⟨be, k, none⟩ (.int .i64 left) = w2 at *
      have y0 := HX2.out.ry.cell 0
      have x0 := HX2.out.re.cell 0
      dsimp only [List.getElem?_cons_zero] at y0 x0
      obtain ⟨v, hv⟩ := HX2.out.rl
      have HUF : Hid (∀ i, i < P → 0 ≤ upd F k left i ∧ upd F k left i ≤ 100) := fun i hi => by
        by_cases c : i = k
        · rw [c, upd_at]; omega
        · rw [upd_no c]; exact HF.out i (by omega)
      go_wp2_with fail
      refine (clo_any P E Dg bn da dc zs wB w2 xd xn xl be (upd F k left) v HG.out h0 HN.out HB2.out (cell_keep HXD.out HB2.out) (cell_keep HXN.out HB2.out) (HD.out.keep HB2.out) HZ.out HX2.out.rv HUF.out hv).mono ?_
      rintro e1 w3 (⟨rfl, hw, hb3⟩ | ⟨rfl, hw, w1, a, c, hb3, ho3, hr3, hi3⟩)
      · have HT : Hid (FillPost P E zs n k F xd xn xl xp xy be xe xf wB (.returned (.bool true)) w3) := ⟨.inl ⟨rfl, by
            obtain rfl : P = k + 1 := by omega
            have hw' := hw
            rw [HLE.out] at hw'
            exact last_won (W := Tak (k + 1) E zs) (fun a b g h => Tak.congr g h) hw', _, fun i hi => upd_no (by omega), HX2.out.below hb3⟩, HB2.out.trans (hb3.mono HB2.out.size)⟩
        clear hw hb3
        go_wp2_with fail
        go_ret
        exact HT.out
      · have HT : Hid (FillPost P E zs n k F xd xn xl xp xy be xe xf wB (.returned (.bool false)) w3) := ⟨.inr ⟨rfl, upd F k left, a, c, by
            obtain rfl : P = k + 1 := by omega
            have hw' := hw
            have hll := HLE.out
            rw [hll] at hw' ⊢
            exact last_lost (fun i hi => (HF.out i hi).1) (by omega) hw', by rw [hr3.cell 0]; rfl, hi3⟩, (HB2.out.trans (hb3.mono HB2.out.size)).trans (ho3.below hxl)⟩
        clear hw hb3 ho3 hr3 hi3
        go_wp2_with fail
        go_ret
        exact HT.out
    | succ d =>
      have b1 : ((k : Int) == (P : Int) - 1) = false := by rw [beq_eq_false_iff_ne]; omega
      go_enter Try.func42, Try.ntmps42
      go_wp2_with fail
      clear p0 y0 x0 f0
      go_loopw [9] (fun z wr => ∃ (x : Nat) (F' : Nat → Int), (x : Int) ≤ left + 1 ∧ z = .int .i64 (x : Int) ∧ (∀ i, i < k → F' i = F i) ∧ StepW P n (Tak P E zs) F k (x : Int) ∧ Box wr xd xn xl xp xy be xe xf P F' ∧ Below wB.heap.size wB wr) (fun z _ => (left + 1 - intOf z).toNat)
      case atStart => exact ⟨0, F, by omega, rfl, fun _ _ => rfl, step_zero hkP, HX.out, HB.out⟩
      case round =>
        clear HX HB
        obtain ⟨x, F', hx, rfl, hag, hst, hX, hB⟩ := hrel
        have HAG := Lib.hid hag
        have HST := Lib.hid hst
        have HX := Lib.hid hX
        have HB := Lib.hid hB
        clear hag hst hX hB
        by_cases hlt : (x : Int) ≤ left
        · have x0 := HX.out.re.cell 0
          dsimp only [List.getElem?_cons_zero] at x0
          have k1 := HX.out.rv.cell hkP
          have k2 := HX.out.rv.frozen k
          go_upto_region 8 with fail
          have ho := only_setCell wr be k (.int .i64 (x : Int))
          have HX2 := Lib.hid (HX.out.onlyE ho (HX.out.rv.set hkP (x : Int)))
          have HB2 := Lib.hid (HB.out.trans (ho.below (by have := HX.out.o1; have := HX.out.o2; have := HX.out.o3; omega)))
          have HUF : Hid (∀ i, i < k + 1 → 0 ≤ upd F' k (x : Int) i ∧ upd F' k (x : Int) i ≤ 100) := fun i hi => by
            by_cases c : i = k
            · rw [c, upd_at]; omega
            · rw [upd_no c, HAG.out i (by omega)]; exact HF.out i (by omega)
          have HUA : Hid (∀ i, i < k + 1 → upd F' k (x : Int) i = upd F k (x : Int) i) := fun i hi => by
            by_cases c : i = k
            · rw [c, upd_at, upd_at]
            · rw [upd_no c, upd_no c]; exact HAG.out i (by omega)
          have HUS : Hid (left - (x : Int) = n - sumZ (upd F' k (x : Int)) (k + 1)) := by
            show _ = _
            rw [sumZ_congr HUA.out]
            show _ = n - (sumZ (upd F k (x : Int)) k + upd F k (x : Int) k)
            rw [upd_at, sumZ_congr (F := upd F k (x : Int)) (G := F) fun i hi => upd_no (by omega), HLE.out]
            omega
          clear ho x0 k1 k2
          generalize wr.setCell ⟨be, k, none⟩ (.int .i64 (x : Int)) = w2 at *
          have f0 := HX2.out.rf.cell 0
          dsimp only [List.getElem?_cons_zero] at f0
          have hk3 : (-9223372036854775808 : Int) ≤ (k : Int) + 1 := by omega
          have hk4 : (k : Int) + 1 ≤ 9223372036854775807 := by omega
          have hk5 : (-9223372036854775808 : Int) ≤ left - (x : Int) := by omega
          have hk6 : left - (x : Int) ≤ 9223372036854775807 := by omega
          go_wp2_with fail
          refine (IH.out d (Nat.lt_succ_self d) (k + 1) (by omega) (upd F' k (x : Int)) (left - (x : Int)) w2 (by omega) HUS.out HUF.out HX2.out HB2.out).mono ?_
          rintro e1 w3 ⟨⟨rfl, hw, F2, hF2, hX3⟩ | ⟨rfl, g, a, c, hg, hl3, hi3⟩, hb3⟩
          · have HST2 : Hid (StepW P n (Tak P E zs) F k ((x : Int) + 1)) := step_on HST.out (hw.congr HUA.out)
            have HX3 := Lib.hid hX3
            have HB3 := Lib.hid hb3
            have HF2 : Hid (∀ i, i < k → F2 i = F i) := fun i hi => by rw [hF2 i (by omega), upd_no (by omega)]; exact HAG.out i hi
            clear hw hF2 hX3 hb3 f0
            go_wp2_with fail
            go_roundw
            case rel => exact ⟨x + 1, F2, by omega, by go_num, HF2.out, HST2.out, HX3.out, HB3.out⟩
            case measure => simp [intOf]; omega
          · have HT : Hid (FillPost P E zs n k F xd xn xl xp xy be xe xf wB (.returned (.bool false)) w3) := ⟨.inr ⟨rfl, g, a, c, step_lost hkP HST.out (hg.congr HUA.out), hl3, hi3⟩, hb3⟩
            clear hg hl3 hi3 hb3 f0
            go_wp2_with fail
            go_ret
            exact HT.out
        · have HT : Hid (FillPost P E zs n k F xd xn xl xp xy be xe xf wB (.returned (.bool true)) wr) := ⟨.inl ⟨rfl, step_end hkP HST.out (by rw [← HLE.out]; omega), F', HAG.out, HX.out⟩, HB.out⟩
          go_wp2_with fail
          go_ret
          exact HT.out
termination_by d => d
end Ch
end Go.Proofs.Ytjikildiblchpaa
