/- Several texts laid together: PwRc PwEq. -/
import Derived.Test.YtgagophijmiceaaDoorPwRt
import Derived.Test.YtgagophijmiceaaDoorPwAh
import Derived.Test.YtgagophijmiceaaDoorPwOm
import Derived.Test.YtgagophijmiceaaDoorPnI
import Derived.Test.YtgagophijmiceaaDoorPwCn
import Derived.Test.YtgagophijmiceaaDoorPnLa
/- WALK: the document's edenref1.Canon. -/
namespace Go.Proofs.YtgagophijmiceaaDoor
set_option linter.unusedSimpArgs false
set_option linter.unusedVariables false
open Go.RowKit
namespace Pw
open Tld Mem Bl Pn

/-- What the document's Canon hands back. -/
def RcP (W H : Nat) (f : Nat → Nat → Nat) (w : World) (e : Ending) (w' : World) : Prop := ∃ W' H' X Y : Nat, ∃ f' a' n' c', Trimmed W H f W' H' f' X Y ∧ n' = W' * H' ∧ e = .returned (.agg #[.int .i64 (qW W' H' (canK W' H' f' 7 % 4) : Nat), .int .i64 (qH W' H' (canK W' H' f' 7 % 4) : Nat), .slice a' n' c']) ∧ Ints.Is w' a' n' (flat (qW W' H' (canK W' H' f' 7 % 4)) (qH W' H' (canK W' H' f' 7 % 4)) (tF W' H' f' (canK W' H' f' 7))) ∧ ∀ b o, a' = some ⟨b, o, none⟩ → n' ≠ 0 → w.heap.size ≤ b

theorem is_other2 {w w' : World} {a : Option Addr} {n c : Nat} {zs : List Int} (h : Ints.Is w a n zs) (o : Only c w w') (hne : ∀ b off, 0 < n → a = some ⟨b, off, none⟩ → b ≠ c) : Ints.Is w' a n zs := by
  rcases Nat.eq_zero_or_pos n with h0 | h0
  · subst h0
    exact ⟨h.len, fun i hi => absurd hi (Nat.not_lt_zero _), h.le⟩
  · exact is_other h o (fun b off e => hne b off h0 e)

set_option maxHeartbeats 16000000 in
set_option maxRecDepth 1000000 in
theorem rcanon_any (W H : Nat) (a : Option Addr) (n c : Nat) (f : Nat → Nat → Nat) (w : World) (hZ : Ints.Is w a n (flat W H f)) (hn : n = W * H) (hW : W ≤ 100) (hH : H ≤ 100) (hf : ∀ x y, f x y < 2) :
    Calls Tryd.prog 26 #[.agg #[.int .i64 W, .int .i64 H, .slice a n c]] w fun e w' => RcP W H f w e w' ∧ Below w.heap.size w w' := by
  have HTM := Lib.hid (fun w2 (h : Below w.heap.size w w2) => dtrim_any W H a n c f w2 (hZ.keep h) hn (by omega) (by omega) hf)
  have HWH := Lib.hid (And.intro hW hH)
  clear hZ hn hW hH hf
  unfold pat at HTM
  go_enter Tryd.func26, Tryd.ntmps26
  go_upto_region 1 with fail
  obtain ⟨hr2, hr3, hb2⟩ := two_new w 35 35 (boxP W H a n c) noPat
  have HP : Hid (Row ((w.alloc (.cells #[.int .i64 W, .int .i64 H, .slice a n c] 35)).alloc (.cells #[.int .i64 0, .int .i64 0, .slice none 0 0] 35)) w.heap.size 35 (boxP W H a n c)) := hr2
  have HR : Hid (Row ((w.alloc (.cells #[.int .i64 W, .int .i64 H, .slice a n c] 35)).alloc (.cells #[.int .i64 0, .int .i64 0, .slice none 0 0] 35)) (w.heap.size + 1) 35 noPat) := hr3
  have HB : Hid (Below w.heap.size w ((w.alloc (.cells #[.int .i64 W, .int .i64 H, .slice a n c] 35)).alloc (.cells #[.int .i64 0, .int .i64 0, .slice none 0 0] 35))) := hb2
  clear hr2 hr3 hb2
  generalize (w.alloc (.cells #[.int .i64 W, .int .i64 H, .slice a n c] 35)).alloc (.cells #[.int .i64 0, .int .i64 0, .slice none 0 0] 35) = w1 at *
  obtain ⟨pb, hpb⟩ : ∃ pb, pb = w.heap.size := ⟨_, rfl⟩
  rw [← hpb] at HP HR ⊢
  obtain ⟨rb, hrb⟩ : ∃ rb, rb = pb + 1 := ⟨_, rfl⟩
  rw [← hrb] at HR ⊢
  have HRB : Hid (w.heap.size ≤ rb) := Lib.hid (by omega)
  clear hpb hrb
  have l6 := row_range HP.out
  go_wp2_with (refine wpList_load_mid rfl 35 _ rfl pb 0 rfl _ _ l6 Tryd.underlying35 rfl infoPat ?_)
  refine (HTM.out _ HB.out).mono ?_
  rintro e3 w3 ⟨⟨W', H', X, Y, a', n', c', rfl, f', ht, hn', hnc, hi, hab⟩, hb3⟩
  have hsz := HB.out.size
  have hrl := HR.out.lt
  have HR := Lib.hid (HR.out.keep hb3 HR.out.lt)
  have HAB : Hid (∀ b o, a' = some ⟨b, o, none⟩ → b ≠ rb ∧ w.heap.size ≤ b) := Lib.hid (fun b o e => by have := hab b o e; omega)
  have HB := Lib.hid (HB.out.trans (hb3.mono HB.out.size))
  have HTR := Lib.hid ht
  have HNN := Lib.hid hn'
  have HLE : Hid (W' ≤ 100 ∧ H' ≤ 100) := Lib.hid (by have := trimmed_le ht; have := HWH.out; omega)
  clear hb3 l6 ht hn' hab HTM HP hnc hsz hrl
  have hq : Row (w3.alloc (.cells #[.int .i64 W', .int .i64 H', .slice a' n' c'] 35)) w3.heap.size 35 (boxP W' H' a' n' c') := row_alloc w3 _ _
  have hb4 : Below w3.heap.size w3 (w3.alloc (.cells #[.int .i64 W', .int .i64 H', .slice a' n' c'] 35)) := (Below.refl _ _).alloc (Nat.le_refl _) _
  have HR := Lib.hid (HR.out.keep hb4 HR.out.lt)
  have HB := Lib.hid (HB.out.trans (hb4.mono HB.out.size))
  have HI := Lib.hid (hi.keep hb4)
  have HQ := Lib.hid hq
  clear hb4 hq hi
  go_upto_region 2 with fail
  generalize w3.alloc (.cells #[.int .i64 W', .int .i64 H', .slice a' n' c'] 35) = wq at *
  obtain ⟨qb, hqb⟩ : ∃ qb, qb = w3.heap.size := ⟨_, rfl⟩
  rw [← hqb] at HQ ⊢
  clear hqb
  have l6 := row_range HQ.out
  have hnew : Row (wq.alloc (.cells #[.int .i64 0, .int .i64 0, .slice none 0 0] 35)) wq.heap.size 35 noPat := row_alloc wq _ noPat
  have hql := HQ.out.lt
  have hrl := HR.out.lt
  have hbsz := HB.out.size
  have HABB : Hid (∀ b o, 0 < n' → a' = some ⟨b, o, none⟩ → b ≠ wq.heap.size) := Lib.hid (fun b o h0 e => by
    obtain ⟨b2, o2, e2, hl2, _⟩ := HI.out.cells 0 h0
    rw [e] at e2; cases e2
    omega)
  go_upto_region 3 with (first | (refine wpList_load_mid rfl 35 _ rfl qb 0 rfl _ _ l6 Tryd.underlying35 rfl infoPat ?_) | (refine Ops.wpList_store_arr rfl 35 _ _ rfl wq.heap.size rfl 35 noPat (boxP W' H' a' n' c') rfl hnew rfl infoPat (boxP_one _ _ _ _ _) ?_; intro w5 hq hon))
  have hb4 : Below wq.heap.size wq w5 := ((Below.refl _ _).alloc (Nat.le_refl _) _).trans (hon.below (Nat.le_refl _))
  have HR := Lib.hid (HR.out.keep hb4 HR.out.lt)
  have HQ := Lib.hid (HQ.out.keep hb4 HQ.out.lt)
  have HB := Lib.hid (HB.out.trans (hb4.mono HB.out.size))
  have HI := Lib.hid (HI.out.keep hb4)
  have HM := Lib.hid hq
  obtain ⟨mb, hmb⟩ : ∃ mb, mb = wq.heap.size := ⟨_, rfl⟩
  rw [← hmb] at HM HABB ⊢
  have HNE : Hid (qb ≠ mb ∧ rb ≠ mb ∧ w.heap.size ≤ mb ∧ qb < mb + 1) := Lib.hid (by omega)
  clear hq hb4 hql hrl hbsz hmb l6 hon hnew
  obtain ⟨WW, hWW⟩ : ∃ WW : Nat → Nat, WW = fun i => qW W' H' (i % 4) := ⟨_, rfl⟩
  obtain ⟨HH, hHH⟩ : ∃ HH : Nat → Nat, HH = fun i => qH W' H' (i % 4) := ⟨_, rfl⟩
  obtain ⟨ZZ, hZZ⟩ : ∃ ZZ : Nat → List Int, ZZ = fun i => flat (qW W' H' (i % 4)) (qH W' H' (i % 4)) (tF W' H' f' i) := ⟨_, rfl⟩
  have HTU : Hid (∀ (wr : World) (hI : Ints.Is wr a' n' (flat W' H' f')) (k : Nat) (hk : k < 8), Calls Tryd.prog 27 #[.agg #[.int .i64 W', .int .i64 H', .slice a' n' c'], .int .i64 k] wr fun e w' => (∃ a1 c1, e = .returned (.agg #[.int .i64 (WW k : Nat), .int .i64 (HH k : Nat), .slice a1 n' c1]) ∧ Ints.Is w' a1 n' (ZZ k) ∧ ∀ b o, a1 = some ⟨b, o, none⟩ → wr.heap.size ≤ b) ∧ Below wr.heap.size wr w') := Lib.hid (fun wr hI k hk => by
    refine (rturn_any W' H' k a' n' c' f' wr hI HNN.out HLE.out.1 HLE.out.2 hk).mono ?_
    rintro e w' ⟨⟨a1, c1, he, _, h1, h3⟩, h4⟩
    exact ⟨⟨a1, c1, by rw [he, hWW, hHH], by rw [hZZ]; exact h1, h3⟩, h4⟩)
  have HWHN : Hid (∀ k, n' = WW k * HH k) := Lib.hid (fun k => by rw [hWW, hHH]; show n' = qW W' H' (k % 4) * qH W' H' (k % 4); rw [q_mul]; exact HNN.out)
  have HCK : Hid (∀ k, canK W' H' f' k = mnK WW HH ZZ k) := Lib.hid (fun k => by rw [hWW, hHH, hZZ]; exact canK_mn W' H' f' k)
  have HM : Hid (Row w5 mb 35 (boxP (WW 0 : Nat) (HH 0 : Nat) a' n' c')) := Lib.hid (by rw [hWW, hHH]; exact HM.out)
  have HI0 : Hid (Ints.Is w5 a' n' (ZZ 0)) := Lib.hid (by rw [hZZ]; exact HI.out)
  have HWE := Lib.hid hWW
  have HHE := Lib.hid hHH
  have HZE := Lib.hid hZZ
  have HN2 : Hid (n' ≤ 1000000) := Lib.hid (by rw [HNN.out]; exact Nat.le_trans (Nat.mul_le_mul HLE.out.1 HLE.out.2) (by decide))
  clear hWW hHH hZZ
  go_wp2_with fail
  go_loopw [7] (fun v wr => ∃ j : Nat, ∃ a2 c2, j < 8 ∧ v = .int .i64 ((j + 1 : Nat) : Int) ∧ Row wr mb 35 (boxP (WW (mnK WW HH ZZ j) : Nat) (HH (mnK WW HH ZZ j) : Nat) a2 n' c2) ∧ Ints.Is wr a2 n' (ZZ (mnK WW HH ZZ j)) ∧ (∀ b o, 0 < n' → a2 = some ⟨b, o, none⟩ → b ≠ mb ∧ b ≠ rb ∧ w.heap.size ≤ b) ∧ Row wr qb 35 (boxP W' H' a' n' c') ∧ Ints.Is wr a' n' (flat W' H' f') ∧ Row wr rb 35 noPat ∧ Below w.heap.size w wr) (fun v _ => 100 - (RowKit.intOf v).toNat)
  case atStart => exact ⟨0, a', c', by decide, rfl, HM.out, HI0.out, fun b o h0 e => ⟨HABB.out b o h0 e, HAB.out b o e⟩, HQ.out, HI.out, HR.out, HB.out⟩
  case round =>
    clear HM HI0 HQ HI HR HB
    obtain ⟨j, a2, c2, hj, rfl, hm, hi2, hne, hq, hi, hr, hb⟩ := hrel
    have HM := Lib.hid hm
    have HI2 := Lib.hid hi2
    have HN2E := Lib.hid hne
    have HQ := Lib.hid hq
    have HI := Lib.hid hi
    have HR := Lib.hid hr
    have HB := Lib.hid hb
    clear hm hi2 hne hq hi hr hb
    obtain ⟨i, hi⟩ : ∃ i, i = j + 1 := ⟨_, rfl⟩
    have HMK : Hid (mnK WW HH ZZ i = if ordP (WW i) (HH i) (ZZ i) (WW (mnK WW HH ZZ j)) (HH (mnK WW HH ZZ j)) (ZZ (mnK WW HH ZZ j)) < 0 then i else mnK WW HH ZZ j) := Lib.hid (by rw [hi]; rfl)
    obtain ⟨m, hm⟩ : ∃ m, m = mnK WW HH ZZ j := ⟨_, rfl⟩
    rw [← hm] at HMK HM HI2
    rw [← hi]
    by_cases hi8 : i < 8
    · have hi8i : (i : Int) < 8 := by omega
      have HI8 := Lib.hid hi8
      have E1 : Hid ((i : Int) + 1 = ((i + 1 : Nat) : Int)) := Lib.hid (by push_cast; rfl)
      have l6 := row_range HQ.out
      have HTK := Lib.hid (HTU.out wr HI.out i hi8)
      clear hm hi hj hi8
      go_wp2_with (refine wpList_load_mid rfl 35 _ rfl qb 0 rfl _ _ l6 Tryd.underlying35 rfl infoPat ?_)
      refine HTK.out.mono ?_
      rintro e6 w6 ⟨⟨a1, c1, rfl, h1, h3⟩, hb6⟩
      have hbz := HB.out.size
      have hml := HM.out.lt
      have hrl := HR.out.lt
      have HM := Lib.hid (HM.out.keep hb6 HM.out.lt)
      have HI2 := Lib.hid (HI2.out.keep hb6)
      have HQ := Lib.hid (HQ.out.keep hb6 HQ.out.lt)
      have HI := Lib.hid (HI.out.keep hb6)
      have HR := Lib.hid (HR.out.keep hb6 HR.out.lt)
      have HB := Lib.hid (HB.out.trans (hb6.mono HB.out.size))
      have HA1 : Hid (∀ b o, 0 < n' → a1 = some ⟨b, o, none⟩ → b ≠ mb ∧ b ≠ rb ∧ w.heap.size ≤ b) := Lib.hid (fun b o h0 e => by have := h3 b o e; have := hbz; omega)
      have hq : Row (w6.alloc (.cells #[.int .i64 (WW i : Nat), .int .i64 (HH i : Nat), .slice a1 n' c1] 35)) w6.heap.size 35 (boxP (WW i : Nat) (HH i : Nat) a1 n' c1) := row_alloc w6 _ _
      have hb7 : Below w6.heap.size w6 (w6.alloc (.cells #[.int .i64 (WW i : Nat), .int .i64 (HH i : Nat), .slice a1 n' c1] 35)) := (Below.refl _ _).alloc (Nat.le_refl _) _
      have HM := Lib.hid (HM.out.keep hb7 HM.out.lt)
      have HI2 := Lib.hid (HI2.out.keep hb7)
      have HQ := Lib.hid (HQ.out.keep hb7 HQ.out.lt)
      have HI := Lib.hid (HI.out.keep hb7)
      have HR := Lib.hid (HR.out.keep hb7 HR.out.lt)
      have HB := Lib.hid (HB.out.trans (hb7.mono HB.out.size))
      have HI1 := Lib.hid (h1.keep hb7)
      have HT := Lib.hid hq
      clear hml hrl hbz hb6 h1 h3 hq hb7 l6 HTK
      go_upto_region 7 with fail
      generalize w6.alloc (.cells #[.int .i64 (WW i : Nat), .int .i64 (HH i : Nat), .slice a1 n' c1] 35) = w7 at *
      obtain ⟨tb, htb⟩ : ∃ tb, tb = w6.heap.size := ⟨_, rfl⟩
      rw [← htb] at HT ⊢
      clear htb
      have HAH := Lib.hid (ahead_any (WW i) (HH i) a1 n' c1 (ZZ i) (WW m) (HH m) a2 n' c2 (ZZ m) w7 HI1.out HI2.out (HWHN.out i) (HWHN.out m) HN2.out)
      have l6 := row_range HT.out
      have l7 := row_range HM.out
      obtain ⟨ov, hov⟩ : ∃ ov, ov = ordP (WW i) (HH i) (ZZ i) (WW m) (HH m) (ZZ m) := ⟨_, rfl⟩
      rw [← hov] at HAH HMK
      clear hov
      go_wp2_with (first | (refine wpList_load_mid rfl 35 _ rfl tb 0 rfl _ _ l6 Tryd.underlying35 rfl infoPat ?_) | (refine wpList_load_mid rfl 35 _ rfl mb 0 rfl _ _ l7 Tryd.underlying35 rfl infoPat ?_))
      refine HAH.out.mono ?_
      rintro e8 w8 ⟨rfl, hb8⟩
      have HM := Lib.hid (HM.out.keep hb8 HM.out.lt)
      have HI2 := Lib.hid (HI2.out.keep hb8)
      have HQ := Lib.hid (HQ.out.keep hb8 HQ.out.lt)
      have HI := Lib.hid (HI.out.keep hb8)
      have HR := Lib.hid (HR.out.keep hb8 HR.out.lt)
      have HB := Lib.hid (HB.out.trans (hb8.mono HB.out.size))
      have HI1 := Lib.hid (HI1.out.keep hb8)
      have HT := Lib.hid (HT.out.keep hb8 HT.out.lt)
      clear hb8 l6 l7 HAH
      by_cases hlt : ov < 0
      · have HMK2 : Hid (mnK WW HH ZZ i = i) := Lib.hid (by rw [HMK.out, if_pos hlt])
        have hd : decide (ov < 0) = true := decide_eq_true hlt
        have l6 := row_range HT.out
        rw [hd]
        go_wp2_with (first | (refine wpList_load_mid rfl 35 _ rfl tb 0 rfl _ _ l6 Tryd.underlying35 rfl infoPat ?_) | (refine Ops.wpList_store_arr rfl 35 _ _ rfl mb rfl 35 _ (boxP (WW i : Nat) (HH i : Nat) a1 n' c1) rfl HM.out rfl infoPat (boxP_one _ _ _ _ _) ?_; intro w9 hrow9 hon9))
        have HM9 := Lib.hid hrow9
        have HI19 : Hid (Ints.Is w9 a1 n' (ZZ i)) := Lib.hid (is_other2 HI1.out hon9 (fun b o h0 e => (HA1.out b o h0 e).1))
        have HQ9 := Lib.hid (HQ.out.other hon9 HNE.out.1)
        have HI9 : Hid (Ints.Is w9 a' n' (flat W' H' f')) := Lib.hid (is_other2 HI.out hon9 HABB.out)
        have HR9 := Lib.hid (HR.out.other hon9 HNE.out.2.1)
        have HB9 := Lib.hid (HB.out.trans (hon9.below HNE.out.2.2.1))
        clear hrow9 hon9 l6
        go_wp2_with fail
        go_roundw
        case rel => exact ⟨i, a1, c1, HI8.out, congrArg (Value.int .i64) E1.out, by rw [HMK2.out]; exact HM9.out, by rw [HMK2.out]; exact HI19.out, HA1.out, HQ9.out, HI9.out, HR9.out, HB9.out⟩
        case measure => exact meas E1.out (by have := HI8.out; omega)
      · have HMK2 : Hid (mnK WW HH ZZ i = m) := Lib.hid (by rw [HMK.out, if_neg hlt])
        have hd : decide (ov < 0) = false := decide_eq_false hlt
        rw [hd]
        go_wp2_with fail
        go_roundw
        case rel => exact ⟨i, a2, c2, HI8.out, congrArg (Value.int .i64) E1.out, by rw [HMK2.out]; exact HM.out, by rw [HMK2.out]; exact HI2.out, HN2E.out, HQ.out, HI.out, HR.out, HB.out⟩
        case measure => exact meas E1.out (by have := HI8.out; omega)
    · have hi8i : ¬ (i : Int) < 8 := by omega
      obtain rfl : j = 7 := by omega
      have HCM : Hid (canK W' H' f' 7 = m) := Lib.hid (by rw [hm]; exact HCK.out 7)
      have l7 := row_range HM.out
      clear hm hi hi8 hj
      go_wp2_with (first | (refine wpList_load_mid rfl 35 _ rfl mb 0 rfl _ _ l7 Tryd.underlying35 rfl infoPat ?_) | (refine Ops.wpList_store_arr rfl 35 _ _ rfl rb rfl 35 _ (boxP (WW m : Nat) (HH m : Nat) a2 n' c2) rfl HR.out rfl infoPat (boxP_one _ _ _ _ _) ?_; intro w9 hrow9 hon9))
      refine bodyPost_ret (results_pat1 (t := 2) rfl _ _ hrow9 rfl rfl) rfl ⟨⟨W', H', X, Y, f', a2, n', c2, HTR.out, HNN.out, ?_, ?_⟩, HB.out.trans (hon9.below HRB.out)⟩
      · rw [HCM.out, HWE.out, HHE.out]; rfl
      · rw [HCM.out]
        have h := HI2.out
        rw [HZE.out] at h
        exact ⟨is_other2 h hon9 (fun b o h0 e => (HN2E.out b o h0 e).2.1), fun b o e h0 => (HN2E.out b o (by omega) e).2.2⟩
end Pw
end Go.Proofs.YtgagophijmiceaaDoor

/- PATTERNS AS TEXTS: the program and the document come to one outcome. -/
namespace Go.Proofs.YtgagophijmiceaaDoor
set_option linter.unusedSimpArgs false
set_option linter.unusedVariables false
open Go.RowKit
namespace Pw
open Tld Mem Bl Pn

theorem outcomes (W H : Nat) (a : Option Addr) (n c : Nat) (f : Nat → Nat → Nat) (w : World) (hZ : Ints.Is w a n (flat W H f)) (hn : n = W * H) (hc : n ≤ c) (hW : W ≤ 100) (hH : H ≤ 100) (hf : ∀ x y, f x y < 2) (hp : pfault W H (flat W H f) = 0) :
    ∃ W1 H1 X1 Y1 : Nat, ∃ z1 : List Int, ∃ W2 H2 : Nat, ∃ z2 : List Int,
      (∀ w2, Below w.heap.size w w2 → Calls Tryd.prog 20 #[.agg #[.int .i64 W, .int .i64 H, .slice a n c]] w2 fun e w' => (∃ a' n' c', e = .returned (.tuple #[.agg #[.int .i64 (W1 : Nat), .int .i64 (H1 : Nat), .slice a' n' c'], .int .i64 (X1 : Nat), .int .i64 (Y1 : Nat), .nilIface]) ∧ Ints.Is w' a' n' z1) ∧ Below w2.heap.size w2 w') ∧
      (∀ w2, Below w.heap.size w w2 → Calls Tryd.prog 25 #[.agg #[.int .i64 W, .int .i64 H, .slice a n c]] w2 fun e w' => (∃ a' n' c', e = .returned (.tuple #[.agg #[.int .i64 (W1 : Nat), .int .i64 (H1 : Nat), .slice a' n' c'], .int .i64 (X1 : Nat), .int .i64 (Y1 : Nat)]) ∧ Ints.Is w' a' n' z1) ∧ Below w2.heap.size w2 w') ∧
      (∀ w2, Below w.heap.size w w2 → Calls Tryd.prog 21 #[.agg #[.int .i64 W, .int .i64 H, .slice a n c]] w2 fun e w' => (∃ a' n' c', e = .returned (.tuple #[.agg #[.int .i64 (W2 : Nat), .int .i64 (H2 : Nat), .slice a' n' c'], .nilIface]) ∧ Ints.Is w' a' n' z2) ∧ Below w2.heap.size w2 w') ∧
      (∀ w2, Below w.heap.size w w2 → Calls Tryd.prog 26 #[.agg #[.int .i64 W, .int .i64 H, .slice a n c]] w2 fun e w' => (∃ a' n' c', e = .returned (.agg #[.int .i64 (W2 : Nat), .int .i64 (H2 : Nat), .slice a' n' c']) ∧ Ints.Is w' a' n' z2 ∧ ∀ b o, a' = some ⟨b, o, none⟩ → n' ≠ 0 → w2.heap.size ≤ b) ∧ Below w2.heap.size w2 w') := by
  by_cases hex : ∃ W1 H1 X1 Y1 : Nat, ∃ f1, Trimmed W H f W1 H1 f1 X1 Y1
  · obtain ⟨W1, H1, X1, Y1, f1, ht⟩ := hex
    refine ⟨W1, H1, X1, Y1, flat W1 H1 f1, qW W1 H1 (canK W1 H1 f1 7 % 4), qH W1 H1 (canK W1 H1 f1 7 % 4), flat (qW W1 H1 (canK W1 H1 f1 7 % 4)) (qH W1 H1 (canK W1 H1 f1 7 % 4)) (tF W1 H1 f1 (canK W1 H1 f1 7)), ?_, ?_, ?_, ?_⟩
    · intro w2 hb
      refine (Trim_ok W H a n c f w2 (hZ.keep hb) hn hc hW hH hf hp).mono ?_
      rintro e w' ⟨⟨W', H', X, Y, a', n', c', he, f', h1, _, _, _, h2, _⟩, h3⟩
      obtain ⟨rfl, rfl, rfl, rfl, hff⟩ := trimmed_one ht h1
      exact ⟨⟨a', n', c', he, by rw [flat_congr hff]; exact h2⟩, h3⟩
    · intro w2 hb
      refine (dtrim_any W H a n c f w2 (hZ.keep hb) hn (by omega) (by omega) hf).mono ?_
      rintro e w' ⟨⟨W', H', X, Y, a', n', c', he, f', h1, _, _, h2, _⟩, h3⟩
      obtain ⟨rfl, rfl, rfl, rfl, hff⟩ := trimmed_one ht h1
      exact ⟨⟨a', n', c', he, by rw [flat_congr hff]; exact h2⟩, h3⟩
    · intro w2 hb
      refine (Canon_ok W H a n c f w2 (hZ.keep hb) hn hc hW hH hf hp).mono ?_
      rintro e w' ⟨⟨W', H', X, Y, f', a', n', c', h1, _, he, h2⟩, h3⟩
      obtain ⟨rfl, rfl, rfl, rfl, hff⟩ := trimmed_one ht h1
      have hk := canK_congr hff 7
      rw [← hk] at he h2
      exact ⟨⟨a', n', c', he, by rw [tF_congr hff]; exact h2⟩, h3⟩
    · intro w2 hb
      refine (rcanon_any W H a n c f w2 (hZ.keep hb) hn hW hH hf).mono ?_
      rintro e w' ⟨⟨W', H', X, Y, f', a', n', c', h1, _, he, h2, h4⟩, h3⟩
      obtain ⟨rfl, rfl, rfl, rfl, hff⟩ := trimmed_one ht h1
      have hk := canK_congr hff 7
      rw [← hk] at he h2
      exact ⟨⟨a', n', c', he, by rw [tF_congr hff]; exact h2, h4⟩, h3⟩
  · refine ⟨0, 0, 0, 0, [], 0, 0, [], ?_, ?_, ?_, ?_⟩
    · intro w2 hb
      refine (Trim_ok W H a n c f w2 (hZ.keep hb) hn hc hW hH hf hp).mono ?_
      rintro e w' ⟨⟨W', H', X, Y, a', n', c', he, f', h1, _⟩, h3⟩
      exact absurd ⟨W', H', X, Y, f', h1⟩ hex
    · intro w2 hb
      refine (dtrim_any W H a n c f w2 (hZ.keep hb) hn (by omega) (by omega) hf).mono ?_
      rintro e w' ⟨⟨W', H', X, Y, a', n', c', he, f', h1, _⟩, h3⟩
      exact absurd ⟨W', H', X, Y, f', h1⟩ hex
    · intro w2 hb
      refine (Canon_ok W H a n c f w2 (hZ.keep hb) hn hc hW hH hf hp).mono ?_
      rintro e w' ⟨⟨W', H', X, Y, f', a', n', c', h1, _⟩, h3⟩
      exact absurd ⟨W', H', X, Y, f', h1⟩ hex
    · intro w2 hb
      refine (rcanon_any W H a n c f w2 (hZ.keep hb) hn hW hH hf).mono ?_
      rintro e w' ⟨⟨W', H', X, Y, f', a', n', c', h1, _⟩, h3⟩
      exact absurd ⟨W', H', X, Y, f', h1⟩ hex
theorem turn_two (W H k : Nat) (a : Option Addr) (n c : Nat) (f : Nat → Nat → Nat) (w : World) (hZ : Ints.Is w a n (flat W H f)) (hn : n = W * H) (hW : W ≤ 100) (hH : H ≤ 100) (hk : k < 8) (hp : pfault W H (flat W H f) = 0) :
    ∃ W3 H3 : Nat, ∃ z3 : List Int,
      (∀ w2, Below w.heap.size w w2 → Calls Tryd.prog 22 #[.agg #[.int .i64 W, .int .i64 H, .slice a n c], .int .i64 k] w2 fun e w' => (∃ a' n' c', e = .returned (.tuple #[.agg #[.int .i64 (W3 : Nat), .int .i64 (H3 : Nat), .slice a' n' c'], .nilIface]) ∧ Ints.Is w' a' n' z3) ∧ Below w2.heap.size w2 w') ∧
      (∀ w2, Below w.heap.size w w2 → Calls Tryd.prog 27 #[.agg #[.int .i64 W, .int .i64 H, .slice a n c], .int .i64 k] w2 fun e w' => (∃ a' n' c', e = .returned (.agg #[.int .i64 (W3 : Nat), .int .i64 (H3 : Nat), .slice a' n' c']) ∧ Ints.Is w' a' n' z3 ∧ ∀ b o, a' = some ⟨b, o, none⟩ → n' ≠ 0 → w2.heap.size ≤ b) ∧ Below w2.heap.size w2 w') := by
  refine ⟨qW W H (k % 4), qH W H (k % 4), flat (qW W H (k % 4)) (qH W H (k % 4)) (tF W H f k), ?_, ?_⟩
  · intro w2 hb
    refine (Turn_ok W H k a n c f w2 (hZ.keep hb) hn (by omega) (by omega) hk hp).mono ?_
    rintro e w' ⟨⟨a', c', he, _, _, h2, _⟩, h3⟩
    exact ⟨⟨a', n, c', he, h2⟩, h3⟩
  · intro w2 hb
    refine (rturn_any W H k a n c f w2 (hZ.keep hb) hn hW hH hk).mono ?_
    rintro e w' ⟨⟨a', c', he, _, h2, h4⟩, h3⟩
    exact ⟨⟨a', n, c', he, h2, fun b o e _ => h4 b o e⟩, h3⟩
end Pw
end Go.Proofs.YtgagophijmiceaaDoor
