/- Several texts laid together: PwTd PwCn. -/
import Derived.Test.YtgagophijmiceaaDoorPnU
import Derived.Test.YtgagophijmiceaaDoorPwOm
import Derived.Test.YtgagophijmiceaaDoorPwTr
import Derived.Test.YtgagophijmiceaaDoorPnR
/- WALK: pattern.turned: it also tells of what type the block is that it hands back. -/
namespace Go.Proofs.YtgagophijmiceaaDoor
set_option linter.unusedSimpArgs false
set_option linter.unusedVariables false
open Go.RowKit
namespace Pn
open Tld Mem Bl

/-- The cells lie in a row of ints. -/
def Typ (w : World) (a : Option Addr) (n : Nat) : Prop := 0 < n → ∀ b o, a = some ⟨b, o, none⟩ → ∃ cs, Row w b 3 cs
theorem Typ.keep {w w' : World} {a : Option Addr} {n : Nat} (h : Typ w a n) (hb : Below w.heap.size w w') : Typ w' a n := fun h0 b o e => by
  obtain ⟨cs, hr⟩ := h h0 b o e
  exact ⟨cs, hr.keep hb hr.lt⟩
theorem Typ.other {w w' : World} {a : Option Addr} {n c : Nat} (h : Typ w a n) (ho : Only c w w') (hne : ∀ b o, a = some ⟨b, o, none⟩ → b ≠ c) : Typ w' a n := fun h0 b o e => by
  obtain ⟨cs, hr⟩ := h h0 b o e
  exact ⟨cs, hr.other ho (hne b o e)⟩
theorem typ_of {w : World} {a : Option Addr} {n g : Nat} {F : Nat → Nat} (ha : 0 < n → (a = none ∧ n = 0) ∨ a = some ⟨g, 0, none⟩) (hv : 0 < n → Vec w g n F) : Typ w a n := fun h0 b o e => by
  rcases ha h0 with ⟨h1, _⟩ | h1
  · rw [h1] at e; cases e
  · rw [h1] at e; cases e
    obtain ⟨cs, hr, _⟩ := (hv h0).row
    exact ⟨cs, hr⟩

set_option maxHeartbeats 8000000 in
set_option maxRecDepth 1000000 in
theorem turned_typ (W H k : Nat) (a : Option Addr) (n c : Nat) (f : Nat → Nat → Nat) (w : World) (hZ : Ints.Is w a n (flat W H f)) (hn : n = W * H) (hW : W ≤ 200) (hH : H ≤ 200) (hk : k < 8) :
    Calls Tryd.prog 48 #[pat W H a n c, .int .i64 k] w fun e w' => (∃ a' c', e = .returned (pat (qW W H (k % 4)) (qH W H (k % 4)) a' n c') ∧ n ≤ c' ∧ c' ≤ maxLen ∧ Ints.Is w' a' n (flat (qW W H (k % 4)) (qH W H (k % 4)) (tF W H f k)) ∧ Typ w' a' n ∧ ∀ b o, a' = some ⟨b, o, none⟩ → w.heap.size ≤ b) ∧ Below w.heap.size w w' := by
  have HZ := Lib.hid (fun w2 (h : Below w.heap.size w w2) => hZ.keep h)
  have hn2 : n ≤ 40000 := by rw [hn]; exact Nat.mul_le_mul hW hH
  have HN := Lib.hid hn
  have HWB := Lib.hid hW
  have HHB := Lib.hid hH
  clear hZ hn hW hH
  unfold pat
  go_enter Tryd.func48, Tryd.ntmps48
  go_upto_region 1 with fail
  obtain ⟨hr5, hr8, hb2⟩ := two_new w 35 35 (boxP W H a n c) noPat
  have HR5 : Hid (Row ((w.alloc (.cells #[.int .i64 W, .int .i64 H, .slice a n c] 35)).alloc (.cells #[.int .i64 0, .int .i64 0, .slice none 0 0] 35)) w.heap.size 35 (boxP W H a n c)) := hr5
  have HR8 : Hid (Row ((w.alloc (.cells #[.int .i64 W, .int .i64 H, .slice a n c] 35)).alloc (.cells #[.int .i64 0, .int .i64 0, .slice none 0 0] 35)) (w.heap.size + 1) 35 noPat) := hr8
  have HB : Hid (Below w.heap.size w ((w.alloc (.cells #[.int .i64 W, .int .i64 H, .slice a n c] 35)).alloc (.cells #[.int .i64 0, .int .i64 0, .slice none 0 0] 35))) := hb2
  clear hr5 hr8 hb2
  generalize (w.alloc (.cells #[.int .i64 W, .int .i64 H, .slice a n c] 35)).alloc (.cells #[.int .i64 0, .int .i64 0, .slice none 0 0] 35) = w1 at *
  obtain ⟨gb, hgb⟩ : ∃ gb, gb = w.heap.size := ⟨_, rfl⟩
  rw [← hgb] at HR5 HR8 ⊢
  obtain ⟨rb, hrb⟩ : ∃ rb, rb = gb + 1 := ⟨_, rfl⟩
  rw [← hrb] at HR8 ⊢
  have HGB := Lib.hid hgb
  have HRB := Lib.hid hrb
  clear hgb hrb
  have l5 := row_range HR5.out
  have hnew : Row (w1.alloc (.cells #[.int .i64 0, .int .i64 0, .slice none 0 0] 35)) w1.heap.size 35 noPat := row_alloc w1 _ noPat
  go_upto_region 2 with (first | (refine wpList_load_mid rfl 35 _ rfl gb 0 rfl _ _ l5 Tryd.underlying35 rfl infoPat ?_) | (refine Ops.wpList_store_arr rfl 35 _ _ rfl w1.heap.size rfl 35 noPat _ rfl hnew rfl infoPat (boxP_one _ _ _ _ _) ?_; intro w2 hq hon))
  clear l5 hnew
  have hl8 := HR8.out.lt
  have hb2 : Below w1.heap.size w1 w2 := ((Below.refl _ _).alloc (Nat.le_refl _) _).trans (hon.below (Nat.le_refl _))
  clear hon
  have HR5 := Lib.hid (HR5.out.keep hb2 HR5.out.lt)
  have HR8 := Lib.hid (HR8.out.keep hb2 HR8.out.lt)
  have HB := Lib.hid (HB.out.trans (hb2.mono HB.out.size))
  have HQ := Lib.hid hq
  obtain ⟨qb, hqb⟩ : ∃ qb, qb = w1.heap.size := ⟨_, rfl⟩
  have hsz := HB.out.size
  rw [← hqb] at HQ ⊢
  have HQB : Hid (qb ≠ gb ∧ qb ≠ rb ∧ w.heap.size ≤ qb) := Lib.hid (by have := HGB.out; have := HRB.out; omega)
  clear hqb hb2 hq hsz hl8
  have f2 := HR5.out.cell 2
  unfold boxP at f2
  dsimp only [List.getElem?_cons_succ, List.getElem?_cons_zero] at f2
  go_wp2_with fail
  refine (clone_any a n c (flat W H f) w2 (by rw [flat_len, HN.out]) (by omega) (HZ.out w2 HB.out).cells (fun ha => ?_)).mono ?_
  · rcases Nat.eq_zero_or_pos n with h | h
    · exact h
    · obtain ⟨b, off, e, _⟩ := (HZ.out w2 HB.out).cells 0 h
      rw [ha] at e; cases e
  rintro e3 w3 ⟨v', rfl, how, hb3⟩
  have hql := HQ.out.lt
  have HR5 := Lib.hid (HR5.out.keep hb3 HR5.out.lt)
  have HR8 := Lib.hid (HR8.out.keep hb3 HR8.out.lt)
  have HQ := Lib.hid (HQ.out.keep hb3 HQ.out.lt)
  obtain ⟨a3, c3, g, hv', hnc, hcm, hg⟩ : ∃ a3 c3 g, v' = .slice a3 n c3 ∧ n ≤ c3 ∧ c3 ≤ maxLen ∧ ((a3 = none ∧ n = 0) ∨ (a3 = some ⟨g, 0, none⟩ ∧ w2.heap.size ≤ g ∧ Vec w3 g n (mpart W f 0))) := own_slice how (fun k hk => by
    rw [mpart_zero, List.getElem?_map]
    have hk2 : k < W * H := by rw [← HN.out]; exact hk
    unfold flat
    simp [List.getElem?_range hk2])
  subst hv'
  have HA : Hid ((a3 = none ∧ n = 0) ∨ (a3 = some ⟨g, 0, none⟩ ∧ qb ≠ g ∧ gb ≠ g ∧ rb ≠ g ∧ w.heap.size ≤ g)) := by
    rcases hg with h | ⟨h1, h2, h3⟩
    · exact Lib.hid (.inl h)
    · have := HQB.out
      have := HGB.out
      have := HRB.out
      exact Lib.hid (.inr ⟨h1, by omega, by omega, by omega, by omega⟩)
  have HG : Hid (0 < n → Vec w3 g n (mpart W f 0)) := Lib.hid (fun h => by
    rcases hg with ⟨_, h0⟩ | ⟨_, _, h3⟩
    · omega
    · exact h3)
  have HB := Lib.hid (HB.out.trans (hb3.mono HB.out.size))
  clear how f2 hg hb3 hql
  unfold maxLen at hcm
  have f2 := HQ.out.cell 2
  have z2 := HQ.out.frozen 2
  unfold boxP at f2
  dsimp only [List.getElem?_cons_succ, List.getElem?_cons_zero] at f2
  have hO := only_setCell w3 qb 2 (.slice a3 n c3)
  have HQ : Hid (Row (w3.setCell ⟨qb, 2, none⟩ (.slice a3 n c3)) qb 35 (boxP W H a3 n c3)) := Lib.hid (HQ.out.set 2 (.slice a3 n c3))
  have HR5 := Lib.hid (HR5.out.other hO HQB.out.1.symm)
  have HR8 := Lib.hid (HR8.out.other hO HQB.out.2.1.symm)
  have HG : Hid (0 < n → Vec (w3.setCell ⟨qb, 2, none⟩ (.slice a3 n c3)) g n (mpart W f 0)) := Lib.hid (fun h => (HG.out h).other hO (by
    rcases HA.out with ⟨_, h0⟩ | ⟨_, h2, _⟩
    · omega
    · exact h2.symm))
  have HB := Lib.hid (HB.out.trans (hO.below HQB.out.2.2))
  clear hO
  go_upto_region 3 with fail
  clear f2 z2
  generalize w3.setCell ⟨qb, 2, none⟩ (.slice a3 n c3) = w4 at *
  --{mirror
  go_upto_if 13 with fail
  go_cut [] (fun wx => Row wx gb 35 (boxP W H a n c) ∧ Row wx rb 35 noPat ∧ Row wx qb 35 (boxP W H a3 n c3) ∧ (Ints.Is wx a3 n (flat W H (if 4 ≤ k then mir W f else f)) ∧ Typ wx a3 n) ∧ Below w.heap.size w wx)
  case first =>
    by_cases hk4 : 4 ≤ k
    · have hki : (4 : Int) ≤ (k : Int) := by omega
      have HIF : Hid ((if 4 ≤ k then mir W f else f) = mir W f) := if_pos hk4
      have f1 := HQ.out.cell 1
      unfold boxP at f1
      dsimp only [List.getElem?_cons_succ, List.getElem?_cons_zero] at f1
      go_wp2_with fail
      clear f1 hk4 hki
      generalize decide ((4 : Int) ≤ (k : Int)) = q4 at *
      go_loopw [16] (fun v wr => ∃ r : Nat, r ≤ H ∧ v = .int .i64 (r : Nat) ∧ Row wr gb 35 (boxP W H a n c) ∧ Row wr rb 35 noPat ∧ Row wr qb 35 (boxP W H a3 n c3) ∧ (0 < n → Vec wr g n (mpart W f r)) ∧ Below w.heap.size w wr) (fun v _ => H - (RowKit.intOf v).toNat)
      case atStart => exact ⟨0, Nat.zero_le _, rfl, HR5.out, HR8.out, HQ.out, HG.out, HB.out⟩
      case round =>
        clear HR5 HR8 HQ HG HB
        obtain ⟨r, hr, rfl, h5, h8, hq, hv, hb⟩ := hrel
        have HR5 := Lib.hid h5
        have HR8 := Lib.hid h8
        have HQ := Lib.hid hq
        have HG := Lib.hid hv
        have HB := Lib.hid hb
        clear h5 h8 hq hv hb
        by_cases hrH : r < H
        · have hr2 : (r : Int) < (H : Int) := by omega
          have HRH := Lib.hid hrH
          obtain ⟨r1, lo, hi, hr1, hlo, hrn, hlh, hhd, hhc, hcl, a0, a1, a2⟩ := seg_nums hrH HN.out hn2 HHB.out hnc
          have HROW : Hid (∀ j, j < n → mpart W f (r + 1) j = revAt lo W (mpart W f r) j) := fun j hj => by rw [hlo]; exact mpart_row hrH (by rw [← HN.out]; exact hj)
          have HLO := Lib.hid hlo
          have HRN := Lib.hid hrn
          have f0 := HQ.out.cell 0
          have f2 := HQ.out.cell 2
          unfold boxP at f0 f2
          dsimp only [List.getElem?_cons_succ, List.getElem?_cons_zero] at f0 f2
          have HR1 := Lib.hid hr1
          clear hlo hrn hr1
          by_cases hW0 : W = 0
          · have HE := Lib.hid (reverse_none hW0)
            have HNZ : Hid (n = 0) := Lib.hid (by rw [HN.out, hW0, Nat.zero_mul])
            clear hW0 hcl
            rcases HA.out with ⟨rfl, h0⟩ | ⟨rfl, hn1, hn2', hn3, hn4⟩
            · clear h0
              go_wp2_with fail
              refine (HE.out _ _ _).mono ?_
              rintro e5 w5 ⟨rfl, rfl⟩
              clear f0 f2 a0 a1 a2 hhc hlh hhd
              have hH3 := HHB.out
              have hr3 := HRH.out
              go_wp2_with fail
              go_roundw
              case rel => exact ⟨r + 1, HRH.out, by go_num, HR5.out, HR8.out, HQ.out, fun h => by have := HNZ.out; omega, HB.out⟩
              case measure => have := HRH.out; simp [RowKit.intOf]; omega
            · clear hn1 hn2' hn3 hn4
              by_cases hc0 : lo = c3
              · subst hc0
                go_wp2_with fail
                refine (HE.out _ _ _).mono ?_
                rintro e5 w5 ⟨rfl, rfl⟩
                clear f0 f2 a0 a1 a2 hhc hlh hhd
                have hH3 := HHB.out
                have hr3 := HRH.out
                go_wp2_with fail
                go_roundw
                case rel => exact ⟨r + 1, HRH.out, by go_num, HR5.out, HR8.out, HQ.out, fun h => by have := HNZ.out; omega, HB.out⟩
                case measure => have := HRH.out; simp [RowKit.intOf]; omega
              · have hc1 : ¬ c3 = lo := fun e => hc0 e.symm
                go_wp2_with fail
                refine (HE.out _ _ _).mono ?_
                rintro e5 w5 ⟨rfl, rfl⟩
                clear f0 f2 a0 a1 a2 hhc hlh hhd
                have hH3 := HHB.out
                have hr3 := HRH.out
                go_wp2_with fail
                go_roundw
                case rel => exact ⟨r + 1, HRH.out, by go_num, HR5.out, HR8.out, HQ.out, fun h => by have := HNZ.out; omega, HB.out⟩
                case measure => have := HRH.out; simp [RowKit.intOf]; omega
          · replace hcl := hcl (Nat.pos_of_ne_zero hW0)
            have HNP : Hid (0 < n) := Lib.hid (Nat.lt_of_lt_of_le (Nat.lt_of_lt_of_le (Nat.pos_of_ne_zero hW0) (Nat.le_add_left _ _)) HRN.out)
            clear hW0
            rcases HA.out with ⟨_, h0⟩ | ⟨rfl, hn1, hn2', hn3, hn4⟩
            · exact absurd HNP.out (by rw [h0]; exact Nat.lt_irrefl 0)
            · have HNE : Hid (qb ≠ g ∧ gb ≠ g ∧ rb ≠ g ∧ w.heap.size ≤ g) := Lib.hid ⟨hn1, hn2', hn3, hn4⟩
              clear hn1 hn2' hn3 hn4
              go_wp2_with fail
              refine (reverse_any g lo W n (c3 - lo) (mpart W f r) wr (HG.out HNP.out) HRN.out (Nat.le_trans hn2 (by decide))).mono ?_
              rintro e5 w5 ⟨rfl, hv5, ho5⟩
              have HG5 : Hid (0 < n → Vec w5 g n (mpart W f (r + 1))) := Lib.hid (fun _ => hv5.congr HROW.out)
              have HR5 := Lib.hid (HR5.out.other ho5 HNE.out.2.1)
              have HR8 := Lib.hid (HR8.out.other ho5 HNE.out.2.2.1)
              have HQ := Lib.hid (HQ.out.other ho5 HNE.out.1)
              have HB := Lib.hid (HB.out.trans (ho5.below HNE.out.2.2.2))
              clear f0 f2 a0 a1 a2 hhc hlh hhd hcl hv5 ho5 HG
              have hH3 := HHB.out
              have hr3 := HRH.out
              go_wp2_with fail
              go_roundw
              case rel => exact ⟨r + 1, HRH.out, by go_num, HR5.out, HR8.out, HQ.out, HG5.out, HB.out⟩
              case measure => have := HRH.out; simp [RowKit.intOf]; omega
        · obtain rfl : r = H := by omega
          have hnl : ¬ (r : Int) < (r : Int) := by omega
          have HI : Hid (Ints.Is wr a3 n (flat W r (mir W f))) := by
            show _
            rcases HA.out with ⟨rfl, h0⟩ | ⟨rfl, hn1, hn2', hn3, hn4⟩
            · subst h0
              exact ⟨by rw [flat_len, ← HN.out], fun i hi => absurd hi (Nat.not_lt_zero _), Nat.zero_le _⟩
            · rcases Nat.eq_zero_or_pos n with h0 | h0
              · subst h0
                exact ⟨by rw [flat_len, ← HN.out], fun i hi => absurd hi (Nat.not_lt_zero _), Nat.zero_le _⟩
              · exact ((HG.out h0).congr fun j hj => (mpart_all (by rw [← HN.out]; exact hj)).symm).flat HN.out (by unfold maxLen; omega)
          have HTY := Lib.hid (typ_of (fun h => by rcases HA.out with h1 | h1; exact .inl h1; exact .inr h1.1) HG.out)
          clear HG
          go_wp2_with fail
          go_meet
          case rel => exact ⟨HR5.out, HR8.out, HQ.out, ⟨by rw [HIF.out]; exact HI.out, HTY.out⟩, HB.out⟩
    · have hki : ¬ (4 : Int) ≤ (k : Int) := by omega
      have HIF : Hid ((if 4 ≤ k then mir W f else f) = f) := if_neg hk4
      have HI : Hid (Ints.Is w4 a3 n (flat W H f)) := by
        show _
        rcases HA.out with ⟨rfl, h0⟩ | ⟨rfl, hn1, hn2', hn3, hn4⟩
        · subst h0
          exact ⟨by rw [flat_len, ← HN.out], fun i hi => absurd hi (Nat.not_lt_zero _), Nat.zero_le _⟩
        · rcases Nat.eq_zero_or_pos n with h0 | h0
          · subst h0
            exact ⟨by rw [flat_len, ← HN.out], fun i hi => absurd hi (Nat.not_lt_zero _), Nat.zero_le _⟩
          · exact ((HG.out h0).congr fun j hj => mpart_zero.symm).flat HN.out (by unfold maxLen; omega)
      have HTY := Lib.hid (typ_of (fun h => by rcases HA.out with h1 | h1; exact .inl h1; exact .inr h1.1) HG.out)
      clear HG hk4
      go_wp2_with fail
      go_meet
      case rel => exact ⟨HR5.out, HR8.out, HQ.out, ⟨by rw [HIF.out]; exact HI.out, HTY.out⟩, HB.out⟩
  case rest =>
  clear HR5 HR8 HQ HG HB
  obtain ⟨h5, h8, hq, ⟨hi, hty⟩, hb⟩ := hcut
  have HTY := Lib.hid hty
  clear hty
  have HR5 := Lib.hid h5
  have HR8 := Lib.hid h8
  have HQ := Lib.hid hq
  have HI := Lib.hid hi
  have HB := Lib.hid hb
  have HAN : Hid (∀ b off, a3 = some ⟨b, off, none⟩ → b ≠ rb ∧ w.heap.size ≤ b) := Lib.hid (fun b off e => by
    rcases HA.out with ⟨h1, _⟩ | ⟨h1, _, _, h2, h3⟩
    · rw [h1] at e; cases e
    · rw [h1] at e; cases e; exact ⟨h2.symm, h3⟩)
  have HC3 : Hid (n ≤ c3 ∧ c3 ≤ maxLen) := Lib.hid ⟨hnc, by unfold maxLen; exact hcm⟩
  clear h5 h8 hq hi hb HA hnc hcm
  --}
  have hkm : (k : Int).tmod 4 = ((k % 4 : Nat) : Int) := Int.ofNat_tmod _ _
  obtain ⟨m, hm⟩ : ∃ m, m = k % 4 := ⟨_, rfl⟩
  rw [← hm] at hkm
  have hm4 : m < 4 := by omega
  have HTF : Hid (tF W H f k = qF W H (if 4 ≤ k then mir W f else f) m) := Lib.hid (by unfold tF; rw [hm])
  obtain ⟨f4, hf4⟩ : ∃ f4, f4 = (if 4 ≤ k then mir W f else f) := ⟨_, rfl⟩
  rw [← hf4] at HTF HI
  have hq0 : qW W H 0 = W ∧ qH W H 0 = H ∧ qF W H f4 0 = f4 := ⟨rfl, rfl, rfl⟩
  have HQ0 := Lib.hid hq0
  have HM := Lib.hid hm
  clear hm hf4 hq0
  go_wp2_with fail
  clear hkm
  go_loopw [35] (fun v wr => ∃ i : Nat, ∃ a4 c4, i ≤ m ∧ v = .int .i64 (i : Nat) ∧ Row wr gb 35 (boxP W H a n c) ∧ Row wr rb 35 noPat ∧ Row wr qb 35 (boxP (qW W H i : Nat) (qH W H i : Nat) a4 n c4) ∧ Ints.Is wr a4 n (flat (qW W H i) (qH W H i) (qF W H f4 i)) ∧ Typ wr a4 n ∧ (∀ b off, a4 = some ⟨b, off, none⟩ → b ≠ rb ∧ w.heap.size ≤ b) ∧ (n ≤ c4 ∧ c4 ≤ maxLen) ∧ Below w.heap.size w wr) (fun v _ => m - (RowKit.intOf v).toNat)
  case atStart => exact ⟨0, a3, c3, Nat.zero_le _, rfl, HR5.out, HR8.out, HQ.out, HI.out, HTY.out, HAN.out, HC3.out, HB.out⟩
  case round =>
    clear HR5 HR8 HQ HI HB HAN HC3 HTY
    obtain ⟨i, a4, c4, hi, rfl, h5, h8, hq, hv, hty, han, hc3, hb⟩ := hrel
    have HTY := Lib.hid hty
    clear hty
    have HAN := Lib.hid han
    have HC3 := Lib.hid hc3
    clear han hc3
    have HR5 := Lib.hid h5
    have HR8 := Lib.hid h8
    have HQ := Lib.hid hq
    have HI := Lib.hid hv
    have HB := Lib.hid hb
    clear h5 h8 hq hv hb
    by_cases him : i < m
    · have hi2 : (i : Int) < (m : Int) := by omega
      have HIM := Lib.hid him
      have hle := q_le HWB.out HHB.out i
      have hqm : n = qW W H i * qH W H i := by rw [q_mul]; exact HN.out
      have l5 := row_range HQ.out
      have HQA := Lib.hid (quarter_any (qW W H i) (qH W H i) a4 n c4 (qF W H f4 i) wr HI.out hqm hle.1 hle.2)
      have HNX := Lib.hid (q_next W H i)
      have HFX : Hid (qF W H f4 (i + 1) = quart (qH W H i) (qF W H f4 i)) := Lib.hid rfl
      unfold pat at HQA
      clear hle hqm
      obtain ⟨u, hu⟩ : ∃ u, u = qW W H i := ⟨_, rfl⟩
      obtain ⟨v, hv⟩ : ∃ v, v = qH W H i := ⟨_, rfl⟩
      rw [← hu, ← hv] at HNX
      rw [← hu, ← hv] at HQA
      rw [← hu, ← hv] at HQ
      rw [← hu, ← hv] at l5
      rw [← hv] at HFX
      have HUV : Hid (n = u * v) := Lib.hid (by rw [hu, hv, q_mul]; exact HN.out)
      clear hu hv
      go_wp2_with (first | (refine wpList_load_mid rfl 35 _ rfl qb 0 rfl _ _ l5 Tryd.underlying35 rfl infoPat ?_) | fail)
      refine HQA.out.mono ?_
      rintro e6 w6 ⟨⟨g6, rfl, hg6, hv6⟩, hb6⟩
      have hql := HQ.out.lt
      have hrl := HR8.out.lt
      have hwr := HB.out.size
      have HR5 := Lib.hid (HR5.out.keep hb6 HR5.out.lt)
      have HR8 := Lib.hid (HR8.out.keep hb6 HR8.out.lt)
      have HQ := Lib.hid (HQ.out.keep hb6 HQ.out.lt)
      have HB := Lib.hid (HB.out.trans (hb6.mono HB.out.size))
      have hne : g6 ≠ qb := by omega
      have HNG6 : Hid (g6 ≠ rb ∧ w.heap.size ≤ g6) := Lib.hid (by omega)
      clear l5 hb6 HI HQA hql hg6 hrl hwr
      go_wp2_with (refine Ops.wpList_store_arr rfl 35 _ _ rfl qb rfl 35 _ (boxP v u (some ⟨g6, 0, none⟩) n n) rfl HQ.out rfl infoPat (boxP_one _ _ _ _ _) ?_; intro w7 hrow7 hon7)
      have HR5 := Lib.hid (HR5.out.other hon7 HQB.out.1.symm)
      have HR8 := Lib.hid (HR8.out.other hon7 HQB.out.2.1.symm)
      have HB := Lib.hid (HB.out.trans (hon7.below HQB.out.2.2))
      have HI : Hid (Ints.Is w7 (some ⟨g6, 0, none⟩) n (flat v u (qF W H f4 (i + 1)))) := Lib.hid (by
        rw [HFX.out]
        exact (hv6.other hon7 hne).flat (by rw [HUV.out, Nat.mul_comm]) (by unfold maxLen; omega))
      have HTY : Hid (Typ w7 (some ⟨g6, 0, none⟩) n) := Lib.hid (typ_of (fun _ => .inr rfl) (fun _ => hv6.other hon7 hne))
      have HQ := Lib.hid hrow7
      clear hrow7 hon7 hv6 hne
      have hm3 : i < 4 := by omega
      go_roundw
      case rel => exact ⟨i + 1, some ⟨g6, 0, none⟩, n, HIM.out, by go_num, HR5.out, HR8.out, by rw [HNX.out.1, HNX.out.2]; exact HQ.out, by rw [HNX.out.1, HNX.out.2]; exact HI.out, HTY.out, fun b off e => by cases e; exact HNG6.out, ⟨Nat.le_refl _, by unfold maxLen; omega⟩, HB.out⟩
      case measure => have := HIM.out; simp [RowKit.intOf]; omega
    · obtain rfl : i = m := by omega
      have hnl : ¬ (i : Int) < (i : Int) := by omega
      have l5 := row_range HQ.out
      have HM2 := Lib.hid HM.out
      go_wp2_with (first | (refine wpList_load_mid rfl 35 _ rfl qb 0 rfl _ _ l5 Tryd.underlying35 rfl infoPat ?_) | (refine Ops.wpList_store_arr rfl 35 _ _ rfl rb rfl 35 _ _ rfl HR8.out rfl infoPat (boxP_one _ _ _ _ _) ?_; intro w5 hrow5 hon5))
      refine bodyPost_ret (results_pat1 (t := 4) rfl _ _ hrow5 rfl rfl) rfl ⟨⟨a4, c4, ?_, HC3.out.1, HC3.out.2, ?_⟩, HB.out.trans (hon5.below ?_)⟩
      · rw [← HM.out]; rfl
      · rw [← HM.out, HTF.out]
        exact ⟨is_other HI.out hon5 (fun b o e => (HAN.out b o e).1), HTY.out.other hon5 (fun b o e => (HAN.out b o e).1), fun b o e => (HAN.out b o e).2⟩
      · have := HGB.out
        have := HRB.out
        omega
end Pn
end Go.Proofs.YtgagophijmiceaaDoor

/- WALK: pattern.Trim, pattern.Canon. -/
namespace Go.Proofs.YtgagophijmiceaaDoor
set_option linter.unusedSimpArgs false
set_option linter.unusedVariables false
open Go.RowKit
namespace Pw
open Tld Mem Bl Pn

set_option maxHeartbeats 8000000 in
set_option maxRecDepth 1000000 in
theorem Trim_bad (W H : Int) (a : Option Addr) (n c : Nat) (zs : List Int) (w : World) (hZ : Ints.Is w a n zs) (hf : pfault W H zs ≠ 0) :
    Calls Tryd.prog 20 #[.agg #[.int .i64 W, .int .i64 H, .slice a n c]] w fun e w' => e = .returned (.tuple #[.agg #[.int .i64 0, .int .i64 0, .slice none 0 0], .int .i64 0, .int .i64 0, errV (pfault W H zs)]) ∧ Below w.heap.size w w' := by
  have HK := Lib.hid (fun w2 (h : Below w.heap.size w w2) => pcheck_any W H a n c zs w2 hZ.len (by have := hZ.le; unfold maxLen at this; omega) (hZ.keep h).cells)
  rw [errV_some hf] at HK ⊢
  generalize pfault W H zs = pv at *
  clear hZ hf
  go_enter Tryd.func20, Tryd.ntmps20
  go_upto_region 1 with fail
  obtain ⟨hr2, hr3, hb2⟩ := two_new w 35 35 (boxP W H a n c) noPat
  have HP : Hid (Row ((w.alloc (.cells #[.int .i64 W, .int .i64 H, .slice a n c] 35)).alloc (.cells #[.int .i64 0, .int .i64 0, .slice none 0 0] 35)) w.heap.size 35 (boxP W H a n c)) := hr2
  have HR : Hid (Row ((w.alloc (.cells #[.int .i64 W, .int .i64 H, .slice a n c] 35)).alloc (.cells #[.int .i64 0, .int .i64 0, .slice none 0 0] 35)) (w.heap.size + 1) 35 noPat) := hr3
  have HB : Hid (Below w.heap.size w ((w.alloc (.cells #[.int .i64 W, .int .i64 H, .slice a n c] 35)).alloc (.cells #[.int .i64 0, .int .i64 0, .slice none 0 0] 35))) := hb2
  clear hr2 hr3 hb2
  generalize (w.alloc (.cells #[.int .i64 W, .int .i64 H, .slice a n c] 35)).alloc (.cells #[.int .i64 0, .int .i64 0, .slice none 0 0] 35) = w1 at *
  obtain ⟨pb, hpb⟩ : ∃ pb, pb = w.heap.size := ⟨_, rfl⟩
  rw [← hpb] at HP HR ⊢
  obtain ⟨rb, hrb⟩ : ∃ rb, rb = pb + 1 := ⟨_, rfl⟩
  rw [← hrb] at HR ⊢
  have HRB : Hid (w.heap.size ≤ rb) := Lib.hid (by omega)
  clear hpb hrb
  have l6 := row_range HP.out
  go_wp2_with (refine wpList_load_mid rfl 35 _ rfl pb 0 rfl _ _ l6 Tryd.underlying35 rfl infoPat ?_)
  refine (HK.out _ HB.out).mono ?_
  rintro e2 w2 ⟨rfl, hb2⟩
  have HP := Lib.hid (HP.out.keep hb2 HP.out.lt)
  have HR := Lib.hid (HR.out.keep hb2 HR.out.lt)
  have HB := Lib.hid (HB.out.trans (hb2.mono HB.out.size))
  clear l6 hb2 HK
  go_wp2_with (refine Ops.wpList_store_arr rfl 35 _ _ rfl rb rfl 35 _ noPat rfl HR.out rfl infoPat noPat_one ?_; intro w5 hrow5 hon5)
  exact bodyPost_ret (results_pat4 (t := 2) (u := 3) (v := 4) (z := 5) (e := .int .i64 0) (f := .int .i64 0) (g := .iface 59 (.int .i64 pv)) rfl _ _ hrow5 rfl rfl rfl rfl rfl) rfl ⟨rfl, HB.out.trans (hon5.below HRB.out)⟩

set_option maxHeartbeats 8000000 in
set_option maxRecDepth 1000000 in
theorem Canon_bad (W H : Int) (a : Option Addr) (n c : Nat) (zs : List Int) (w : World) (hZ : Ints.Is w a n zs) (hf : pfault W H zs ≠ 0) :
    Calls Tryd.prog 21 #[.agg #[.int .i64 W, .int .i64 H, .slice a n c]] w fun e w' => e = .returned (.tuple #[.agg #[.int .i64 0, .int .i64 0, .slice none 0 0], errV (pfault W H zs)]) ∧ Below w.heap.size w w' := by
  have HK := Lib.hid (fun w2 (h : Below w.heap.size w w2) => pcheck_any W H a n c zs w2 hZ.len (by have := hZ.le; unfold maxLen at this; omega) (hZ.keep h).cells)
  rw [errV_some hf] at HK ⊢
  generalize pfault W H zs = pv at *
  clear hZ hf
  go_enter Tryd.func21, Tryd.ntmps21
  go_upto_region 1 with fail
  obtain ⟨hr2, hr3, hb2⟩ := two_new w 35 35 (boxP W H a n c) noPat
  have HP : Hid (Row ((w.alloc (.cells #[.int .i64 W, .int .i64 H, .slice a n c] 35)).alloc (.cells #[.int .i64 0, .int .i64 0, .slice none 0 0] 35)) w.heap.size 35 (boxP W H a n c)) := hr2
  have HR : Hid (Row ((w.alloc (.cells #[.int .i64 W, .int .i64 H, .slice a n c] 35)).alloc (.cells #[.int .i64 0, .int .i64 0, .slice none 0 0] 35)) (w.heap.size + 1) 35 noPat) := hr3
  have HB : Hid (Below w.heap.size w ((w.alloc (.cells #[.int .i64 W, .int .i64 H, .slice a n c] 35)).alloc (.cells #[.int .i64 0, .int .i64 0, .slice none 0 0] 35))) := hb2
  clear hr2 hr3 hb2
  generalize (w.alloc (.cells #[.int .i64 W, .int .i64 H, .slice a n c] 35)).alloc (.cells #[.int .i64 0, .int .i64 0, .slice none 0 0] 35) = w1 at *
  obtain ⟨pb, hpb⟩ : ∃ pb, pb = w.heap.size := ⟨_, rfl⟩
  rw [← hpb] at HP HR ⊢
  obtain ⟨rb, hrb⟩ : ∃ rb, rb = pb + 1 := ⟨_, rfl⟩
  rw [← hrb] at HR ⊢
  have HRB : Hid (w.heap.size ≤ rb) := Lib.hid (by omega)
  clear hpb hrb
  have l6 := row_range HP.out
  go_wp2_with (refine wpList_load_mid rfl 35 _ rfl pb 0 rfl _ _ l6 Tryd.underlying35 rfl infoPat ?_)
  refine (HK.out _ HB.out).mono ?_
  rintro e2 w2 ⟨rfl, hb2⟩
  have HP := Lib.hid (HP.out.keep hb2 HP.out.lt)
  have HR := Lib.hid (HR.out.keep hb2 HR.out.lt)
  have HB := Lib.hid (HB.out.trans (hb2.mono HB.out.size))
  clear l6 hb2 HK
  go_wp2_with (refine Ops.wpList_store_arr rfl 35 _ _ rfl rb rfl 35 _ noPat rfl HR.out rfl infoPat noPat_one ?_; intro w5 hrow5 hon5)
  exact bodyPost_ret (results_pat (t := 2) (u := 3) (e := .iface 59 (.int .i64 pv)) rfl _ _ hrow5 rfl rfl rfl) rfl ⟨rfl, HB.out.trans (hon5.below HRB.out)⟩

/-- Patterns, one behind the other. -/
def elP (WW HH : Nat → Nat) (A : Nat → Option Addr) (n : Nat) (C : Nat → Nat) : Nat → List Value
  | 0 => []
  | k + 1 => elP WW HH A n C k ++ boxP (WW k : Nat) (HH k : Nat) (A k) n (C k)
theorem elP_len (WW HH : Nat → Nat) (A : Nat → Option Addr) (n : Nat) (C : Nat → Nat) : ∀ k, (elP WW HH A n C k).length = 3 * k
  | 0 => rfl
  | k + 1 => by
    rw [elP, List.length_append, elP_len WW HH A n C k]
    simp [boxP]
    omega
theorem elP_at (WW HH : Nat → Nat) (A : Nat → Option Addr) (n : Nat) (C : Nat → Nat) : ∀ k i j, i < k → j < 3 → (elP WW HH A n C k)[3 * i + j]? = (boxP (WW i : Nat) (HH i : Nat) (A i) n (C i))[j]?
  | 0, i, j, h, _ => absurd h (Nat.not_lt_zero _)
  | k + 1, i, j, h, hj => by
    have hl := elP_len WW HH A n C k
    rw [elP]
    by_cases hik : i < k
    · rw [List.getElem?_append_left (by rw [hl]; omega)]
      exact elP_at WW HH A n C k i j hik hj
    · obtain rfl : i = k := by omega
      rw [List.getElem?_append_right (by rw [hl]; omega), hl, show 3 * i + j - 3 * i = j by omega]
theorem elP_congr (WW HH : Nat → Nat) (n : Nat) {A A' : Nat → Option Addr} {C C' : Nat → Nat} : ∀ k, (∀ i, i < k → A i = A' i ∧ C i = C' i) → elP WW HH A n C k = elP WW HH A' n C' k
  | 0, _ => rfl
  | k + 1, h => by
    rw [elP, elP, elP_congr WW HH n k (fun i hi => h i (by omega)), (h k (by omega)).1, (h k (by omega)).2]
theorem elP_range {w : World} {B g k cap i n : Nat} {WW HH : Nat → Nat} {A : Nat → Option Addr} {C : Nat → Nat} (h : w.ownsRow B 35 3 (.slice (some ⟨g, 0, none⟩) k cap) k (elP WW HH A n C k)) (hi : i < k) : w.rangeAt g (3 * i) (boxP (WW i : Nat) (HH i : Nat) (A i) n (C i)) := fun j v hv => by
  have hj : j < 3 := (List.getElem?_eq_some_iff.1 hv).1
  have := h.cells (g := g) rfl (3 * i + j) v (by rw [elP_at WW HH A n C k i j hi hj]; exact hv)
  rw [Addr.add_mid, Nat.zero_add] at this
  exact this
/-- Cells elsewhere stand where a slice of the call's own grows. -/
theorem is_grown {w w' : World} {a : Option Addr} {n B m : Nat} {zs : List Int} {xs : List Value} {v : Value} (h : Ints.Is w a n zs) (ht : Typ w a n) (ho : w.ownsRow B 35 3 v m xs) (hg : w.grownBy w' v.ownBlock) : Ints.Is w' a n zs ∧ Typ w' a n := by
  have hne : 0 < n → ∀ b o, a = some ⟨b, o, none⟩ → some b ≠ v.ownBlock := fun h0 b o e x => by
    obtain ⟨cs, hr⟩ := ht h0 b o e
    rcases ho.2 with ⟨hv, _⟩ | ⟨g, cap, cur, hv, _, hgg, _⟩
    · rw [hv] at x; cases x
    · rw [hv] at x
      have e1 : b = g := Option.some.inj x
      subst e1
      unfold Row at hr
      rw [hr] at hgg
      cases hgg
  refine ⟨⟨h.len, fun i hi => ?_, h.le⟩, fun h0 b o e => ?_⟩
  · obtain ⟨b, off, e, hlt, hc⟩ := h.cells i hi
    refine ⟨b, off, e, Nat.lt_of_lt_of_le hlt hg.size, ?_⟩
    rw [← hc]
    unfold World.cell?
    rw [show (⟨b, off + i, none⟩ : Addr).block = b from rfl, hg.block b hlt (hne (by omega) b off e)]
  · obtain ⟨cs, hr⟩ := ht h0 b o e
    exact ⟨cs, (hg.block b hr.lt (hne h0 b o e)).trans hr⟩
theorem own_low3 {w : World} {B n : Nat} {e : TypeId} {s : Nat} {v : Value} {xs : List Value} (h : w.ownsRow B e s v n xs) : ∀ k, v.ownBlock = some k → B ≤ k := fun k hk => (h.lt k hk).1
theorem infoPat3 : (Tryd.prog.info? 35).map (fun i => (i.zero, i.size, i.bytes)) = some (some (.agg #[.int .i64 0, .int .i64 0, .slice none 0 0]), 3, 40) := by kernel_rfl
theorem wpList_app {P : Program} {ops : Array Oper} {rest : List Oper} {o : Oper} {a : Act} {w : World} {Q : Exit → Act → World → Prop} (hgd : o.guard = none) (x y : Operand) (t : TypeId)
    (ho : o.op = .call { callee := .builtin .append, args := #[x, y], argTypes := #[t, t] })
    (B : Nat) (e : TypeId) (i : TypeInfo) (z : Value) (size bytes : Nat) (ht : P.underlying t = some (.slice e)) (hi : P.info? e = some i) (hz : i.zero = some z) (hsize : i.size = size) (hby : i.bytes = bytes) (hzs : z.cells.size = size) (hsz : 0 < size)
    (v : Value) (n : Nat) (xs : List Value) (hs : a.eval x = v) (hown : w.ownsRow B e size v n xs) (b m c : Nat) (news : List Value) (hy : a.eval y = .slice (some ⟨b, 0, none⟩) m c) (hl : news.length = m * size) (hnews : Row w b e news) (h1 : ∀ u ∈ news, u.oneCell' = true)
    (h63 : n + m ≤ maxLen) (hbytes : (n + m) * bytes ≤ 140737488355328) (hB : B ≤ w.heap.size) (hm : 0 < m)
    (hK : ∀ ao co w', w'.ownsRow B e size (.slice ao (n + m) co) (n + m) (xs ++ news) → w.grownBy w' v.ownBlock → wpList P ops Q rest (a.put o.dst (.slice ao (n + m) co)) w') :
    wpList P ops Q (o :: rest) a w := by
  refine wpList_append_own w hgd x y t ho B e i z size bytes ht hi hz hsize hby hzs hsz v n xs hs hown ⟨b, 0, none⟩ m c news hy hl (fun j q hj => ?_) h1 h63 hbytes hB fun v' w' ho' hg _ => ?_
  · have ea : (⟨b, 0, none⟩ : Addr).add j = ⟨b, j, none⟩ := (Addr.add_mid b 0 j).trans (by rw [Nat.zero_add])
    rw [ea, hnews.cell]
    exact hj
  · rcases ho'.2 with ⟨_, h0⟩ | ⟨g, cap, cur, hv, _⟩
    · omega
    · subst hv
      exact hK _ _ _ ho' hg

set_option maxHeartbeats 16000000 in
set_option maxRecDepth 1000000 in
theorem Canon_ok (W H : Nat) (a : Option Addr) (n c : Nat) (f : Nat → Nat → Nat) (w : World) (hZ : Ints.Is w a n (flat W H f)) (hn : n = W * H) (hc : n ≤ c) (hW : W ≤ 100) (hH : H ≤ 100) (hf : ∀ x y, f x y < 2) (hp : pfault W H (flat W H f) = 0) :
    Calls Tryd.prog 21 #[.agg #[.int .i64 W, .int .i64 H, .slice a n c]] w fun e w' => (∃ W' H' X Y : Nat, ∃ f' a' n' c', Trimmed W H f W' H' f' X Y ∧ n' = W' * H' ∧ e = .returned (.tuple #[.agg #[.int .i64 (qW W' H' (canK W' H' f' 7 % 4) : Nat), .int .i64 (qH W' H' (canK W' H' f' 7 % 4) : Nat), .slice a' n' c'], .nilIface]) ∧ Ints.Is w' a' n' (flat (qW W' H' (canK W' H' f' 7 % 4)) (qH W' H' (canK W' H' f' 7 % 4)) (tF W' H' f' (canK W' H' f' 7)))) ∧ Below w.heap.size w w' := by
  have HT := Lib.hid (fun w2 (h : Below w.heap.size w w2) => trim_any W H a n c f w2 (hZ.keep h) hn hc (by omega) (by omega) hf)
  have HK := Lib.hid (fun w2 (h : Below w.heap.size w w2) => pcheck_any W H a n c (flat W H f) w2 (by rw [flat_len, hn]) (by have := Nat.mul_le_mul hW hH; omega) (hZ.keep h).cells)
  rw [hp, errV_zero rfl] at HK
  have HWH := Lib.hid (And.intro hW hH)
  clear hZ hn hW hH hf hc hp
  unfold pat at HT
  go_enter Tryd.func21, Tryd.ntmps21
  go_upto_region 1 with fail
  obtain ⟨hr2, hr3, hb2⟩ := two_new w 35 35 (boxP W H a n c) noPat
  have HP : Hid (Row ((w.alloc (.cells #[.int .i64 W, .int .i64 H, .slice a n c] 35)).alloc (.cells #[.int .i64 0, .int .i64 0, .slice none 0 0] 35)) w.heap.size 35 (boxP W H a n c)) := hr2
  have HR : Hid (Row ((w.alloc (.cells #[.int .i64 W, .int .i64 H, .slice a n c] 35)).alloc (.cells #[.int .i64 0, .int .i64 0, .slice none 0 0] 35)) (w.heap.size + 1) 35 noPat) := hr3
  have HB : Hid (Below w.heap.size w ((w.alloc (.cells #[.int .i64 W, .int .i64 H, .slice a n c] 35)).alloc (.cells #[.int .i64 0, .int .i64 0, .slice none 0 0] 35))) := hb2
  clear hr2 hr3 hb2
  generalize (w.alloc (.cells #[.int .i64 W, .int .i64 H, .slice a n c] 35)).alloc (.cells #[.int .i64 0, .int .i64 0, .slice none 0 0] 35) = w1 at *
  obtain ⟨pb, hpb⟩ : ∃ pb, pb = w.heap.size := ⟨_, rfl⟩
  rw [← hpb] at HP HR ⊢
  obtain ⟨rb, hrb⟩ : ∃ rb, rb = pb + 1 := ⟨_, rfl⟩
  rw [← hrb] at HR ⊢
  have HRB : Hid (w.heap.size ≤ rb) := Lib.hid (by omega)
  clear hpb hrb
  have l6 := row_range HP.out
  go_wp2_with (refine wpList_load_mid rfl 35 _ rfl pb 0 rfl _ _ l6 Tryd.underlying35 rfl infoPat ?_)
  refine (HK.out _ HB.out).mono ?_
  rintro e2 w2 ⟨rfl, hb2⟩
  have HP := Lib.hid (HP.out.keep hb2 HP.out.lt)
  have HR := Lib.hid (HR.out.keep hb2 HR.out.lt)
  have HB := Lib.hid (HB.out.trans (hb2.mono HB.out.size))
  clear l6 hb2 HK
  have l6 := row_range HP.out
  go_wp2_with (refine wpList_load_mid rfl 35 _ rfl pb 0 rfl _ _ l6 Tryd.underlying35 rfl infoPat ?_)
  refine (HT.out _ HB.out).mono ?_
  rintro e3 w3 ⟨⟨W', H', X, Y, a', n', c', rfl, f', ht, hn', hnc, hcm, hi, hab⟩, hb3⟩
  have HR := Lib.hid (HR.out.keep hb3 HR.out.lt)
  have HB := Lib.hid (HB.out.trans (hb3.mono HB.out.size))
  have HI := Lib.hid hi
  have HTR := Lib.hid ht
  have HNN := Lib.hid hn'
  have HLE : Hid (W' ≤ 100 ∧ H' ≤ 100) := Lib.hid (by have := trimmed_le ht; have := HWH.out; omega)
  clear hb3 l6 hi ht hn' hab HT HP
  have hq : Row (w3.alloc (.cells #[.int .i64 W', .int .i64 H', .slice a' n' c'] 35)) w3.heap.size 35 (boxP W' H' a' n' c') := row_alloc w3 _ _
  have hb4 : Below w3.heap.size w3 (w3.alloc (.cells #[.int .i64 W', .int .i64 H', .slice a' n' c'] 35)) := (Below.refl _ _).alloc (Nat.le_refl _) _
  have HR := Lib.hid (HR.out.keep hb4 HR.out.lt)
  have HB := Lib.hid (HB.out.trans (hb4.mono HB.out.size))
  have HI := Lib.hid (HI.out.keep hb4)
  have HQ := Lib.hid hq
  clear hb4 hq hnc hcm
  go_upto_region 5 with fail
  generalize w3.alloc (.cells #[.int .i64 W', .int .i64 H', .slice a' n' c'] 35) = wq at *
  obtain ⟨qb, hqb⟩ : ∃ qb, qb = w3.heap.size := ⟨_, rfl⟩
  rw [← hqb] at HQ ⊢
  clear hqb
  obtain ⟨WW, hWW⟩ : ∃ WW : Nat → Nat, WW = fun i => qW W' H' (i % 4) := ⟨_, rfl⟩
  obtain ⟨HH, hHH⟩ : ∃ HH : Nat → Nat, HH = fun i => qH W' H' (i % 4) := ⟨_, rfl⟩
  obtain ⟨ZZ, hZZ⟩ : ∃ ZZ : Nat → List Int, ZZ = fun i => flat (qW W' H' (i % 4)) (qH W' H' (i % 4)) (tF W' H' f' i) := ⟨_, rfl⟩
  have HTU : Hid (∀ (wr : World) (hb : Below wq.heap.size wq wr) (k : Nat) (hk : k < 8), Calls Tryd.prog 48 #[.agg #[.int .i64 W', .int .i64 H', .slice a' n' c'], .int .i64 k] wr fun e w' => (∃ a1 c1, e = .returned (.agg #[.int .i64 (WW k : Nat), .int .i64 (HH k : Nat), .slice a1 n' c1]) ∧ Ints.Is w' a1 n' (ZZ k) ∧ Typ w' a1 n' ∧ ∀ b o, a1 = some ⟨b, o, none⟩ → wr.heap.size ≤ b) ∧ Below wr.heap.size wr w') := Lib.hid (fun wr hb k hk => by
    refine (turned_typ W' H' k a' n' c' f' wr (HI.out.keep hb) HNN.out (by have := HLE.out; omega) (by have := HLE.out; omega) hk).mono ?_
    rintro e w' ⟨⟨a1, c1, he, _, _, h1, h2, h3⟩, h4⟩
    exact ⟨⟨a1, c1, by rw [he, hWW, hHH]; rfl, by rw [hZZ]; exact h1, h2, h3⟩, h4⟩)
  have HCK : Hid (∀ k, canK W' H' f' k = mnK WW HH ZZ k) := Lib.hid (fun k => by rw [hWW, hHH, hZZ]; exact canK_mn W' H' f' k)
  have HWE := Lib.hid hWW
  have HHE := Lib.hid hHH
  have HZE := Lib.hid hZZ
  have HN2 : Hid (n' ≤ 1000000) := Lib.hid (by rw [HNN.out]; exact Nat.le_trans (Nat.mul_le_mul HLE.out.1 HLE.out.2) (by decide))
  obtain ⟨i0, hI0, hz0, hz1, hz2⟩ := info_parts infoPat3
  have HI0 := Lib.hid hI0
  have HZ0 := Lib.hid hz0
  have HZ1 := Lib.hid hz1
  have HZ2 := Lib.hid hz2
  clear hWW hHH hZZ hI0 hz0 hz1 hz2
  go_wp2_with fail
  go_loopw [8, 22] (fun u v wr => ∃ k : Nat, ∃ vs A C, vs = u ∧ v = .int .i64 ((k : Nat) : Int) ∧ k ≤ 8 ∧ wr.ownsRow wq.heap.size 35 3 vs k (elP WW HH A n' C k) ∧ (∀ i, i < k → Ints.Is wr (A i) n' (ZZ i) ∧ Typ wr (A i) n' ∧ ∀ b o, A i = some ⟨b, o, none⟩ → wq.heap.size ≤ b) ∧ Below wq.heap.size wq wr) (fun _ v _ => 100 - (RowKit.intOf v).toNat)
  case atStart => exact ⟨0, _, fun _ => none, fun _ => 0, rfl, rfl, by decide, ⟨rfl, .inl ⟨rfl, rfl⟩⟩, fun i hi => absurd hi (Nat.not_lt_zero _), Below.refl _ _⟩
  case round =>
    obtain ⟨k, vs, A, C, rfl, rfl, hk, ho, he, hb⟩ := hrel
    have HO := Lib.hid ho
    have HE := Lib.hid he
    have HBQ := Lib.hid hb
    clear ho he hb
    by_cases hk8 : k < 8
    · have hki : (k : Int) < 8 := by omega
      have HK8 := Lib.hid hk8
      have E1 : Hid ((k : Int) + 1 = ((k + 1 : Nat) : Int)) := Lib.hid (by push_cast; rfl)
      have HQr := Lib.hid (HQ.out.keep HBQ.out HQ.out.lt)
      have l6 := row_range HQr.out
      have HTK := Lib.hid (HTU.out wr HBQ.out k hk8)
      clear hk8 hk
      go_wp2_with (refine wpList_load_mid rfl 35 _ rfl qb 0 rfl _ _ l6 Tryd.underlying35 rfl infoPat ?_)
      refine HTK.out.mono ?_
      rintro e5 w5 ⟨⟨a1, c1, rfl, h1, h2, h3⟩, hb5⟩
      have hnew := row_alloc w5 35 (boxP (WW k : Nat) (HH k : Nat) a1 n' c1)
      have hb6 : Below w5.heap.size w5 (w5.alloc (.cells (boxP (WW k : Nat) (HH k : Nat) a1 n' c1).toArray 35)) := (Below.refl _ _).alloc (Nat.le_refl _) _
      have hb7 := hb5.trans (hb6.mono hb5.size)
      have HO7 := Lib.hid (own_stays HO.out hb7)
      have HBQ7 := Lib.hid (HBQ.out.trans (hb7.mono HBQ.out.size))
      have HEL : Hid (∀ i, i < k + 1 → Ints.Is (w5.alloc (.cells (boxP (WW k : Nat) (HH k : Nat) a1 n' c1).toArray 35)) (if i = k then a1 else A i) n' (ZZ i) ∧ Typ (w5.alloc (.cells (boxP (WW k : Nat) (HH k : Nat) a1 n' c1).toArray 35)) (if i = k then a1 else A i) n' ∧ ∀ b o, (if i = k then a1 else A i) = some ⟨b, o, none⟩ → wq.heap.size ≤ b) := Lib.hid (fun i hi => by
        by_cases hik : i = k
        · subst hik
          rw [if_pos rfl]
          exact ⟨h1.keep hb6, h2.keep hb6, fun b o e => Nat.le_trans HBQ.out.size (h3 b o e)⟩
        · rw [if_neg hik]
          obtain ⟨g1, g2, g3⟩ := HE.out i (by omega)
          exact ⟨g1.keep hb7, g2.keep hb7, g3⟩)
      have HRW := Lib.hid hnew
      clear hnew hb5 hb6 hb7 h1 h2 h3 l6 HTK HO HE HBQ HQr
      go_wp2_with (at_builtin; refine wpList_app rfl _ _ 92 rfl wq.heap.size 35 i0 _ 3 40 Tryd.underlying92 HI0.out HZ0.out HZ1.out HZ2.out rfl (by decide) _ k _ rfl HO7.out w5.heap.size 1 1 (boxP (WW k : Nat) (HH k : Nat) a1 n' c1) rfl rfl HRW.out (boxP_one _ _ _ _ _) ?c1 ?c2 HBQ7.out.size (by decide) ?_)
      case c1 => have := HK8.out; unfold maxLen; omega
      case c2 => have := HK8.out; omega
      intro ao co w7 hO7 hg7
      have HO8 : Hid (w7.ownsRow wq.heap.size 35 3 (.slice ao (k + 1) co) (k + 1) (elP WW HH (fun i => if i = k then a1 else A i) n' (fun i => if i = k then c1 else C i) (k + 1))) := Lib.hid (by
        rw [elP, ← elP_congr WW HH n' (A := A) (C := C) k (fun i hi => by rw [if_neg (by omega), if_neg (by omega)]; exact ⟨rfl, rfl⟩), if_pos rfl, if_pos rfl]
        exact hO7)
      have HEL8 : Hid (∀ i, i < k + 1 → Ints.Is w7 ((fun i => if i = k then a1 else A i) i) n' (ZZ i) ∧ Typ w7 ((fun i => if i = k then a1 else A i) i) n' ∧ ∀ b o, (fun i => if i = k then a1 else A i) i = some ⟨b, o, none⟩ → wq.heap.size ≤ b) := Lib.hid (fun i hi => by
        obtain ⟨g1, g2, g3⟩ := HEL.out i hi
        obtain ⟨g4, g5⟩ := is_grown g1 g2 HO7.out hg7
        exact ⟨g4, g5, g3⟩)
      have HBQ8 := Lib.hid (HBQ7.out.grown hg7 HBQ7.out.size (own_low3 HO7.out))
      clear hO7 hg7 HO7 HEL HBQ7 HRW
      go_wp2_with fail
      go_roundw
      case rel => exact ⟨k + 1, _, _, _, rfl, congrArg (Value.int .i64) E1.out, HK8.out, HO8.out, HEL8.out, HBQ8.out⟩
      case measure => exact meas E1.out (by have := HK8.out; omega)
    · have hki : ¬ (k : Int) < 8 := by omega
      obtain rfl : k = 8 := by omega
      obtain ⟨g, cap, rfl, hgl⟩ : ∃ g cap, vs = .slice (some ⟨g, 0, none⟩) 8 cap ∧ g < wr.heap.size := by
        rcases HO.out.2 with ⟨_, h0⟩ | ⟨g, cap, cur, hv, _, hg, _⟩
        · omega
        · exact ⟨g, cap, hv, (Array.getElem?_eq_some_iff.1 hg).1⟩
      have HMN := Lib.hid (min_any WW HH ZZ A C n' g cap wr HN2.out hgl (fun i hi => elP_range HO.out hi) (fun i hi => (HE.out i hi).1))
      have hm7 : mnK WW HH ZZ 7 < 8 := by have := mnK_le WW HH ZZ 7; omega
      have HEM := Lib.hid (HE.out _ hm7)
      have HCM := Lib.hid (HCK.out 7)
      have HRr := Lib.hid (HR.out.keep HBQ.out HR.out.lt)
      have HRQ : Hid (rb < wq.heap.size) := Lib.hid HR.out.lt
      unfold pat at HMN
      obtain ⟨m, hm⟩ : ∃ m, m = mnK WW HH ZZ 7 := ⟨_, rfl⟩
      rw [← hm] at HMN HEM HCM
      clear hm hm7 hk8 hk hgl HE HO
      go_wp2_with fail
      refine HMN.out.mono ?_
      rintro e5 w5 ⟨rfl, hb5⟩
      have HEM := Lib.hid (And.intro (HEM.out.1.keep hb5) HEM.out.2.2)
      have HRr := Lib.hid (HRr.out.keep hb5 HRr.out.lt)
      have HB := Lib.hid ((HB.out.trans (HBQ.out.mono HB.out.size)).trans (hb5.mono (Nat.le_trans HB.out.size HBQ.out.size)))
      clear hb5 HMN
      go_wp2_with (refine Ops.wpList_store_arr rfl 35 _ _ rfl rb rfl 35 _ (boxP (WW m : Nat) (HH m : Nat) (A m) n' (C m)) rfl HRr.out rfl infoPat (boxP_one _ _ _ _ _) ?_; intro w7 hrow7 hon7)
      refine bodyPost_ret (results_pat (t := 2) (u := 3) (e := .nilIface) rfl _ _ hrow7 rfl rfl rfl) rfl ⟨⟨W', H', X, Y, f', A m, n', C m, HTR.out, HNN.out, ?_, ?_⟩, HB.out.trans (hon7.below HRB.out)⟩
      · rw [HCM.out, HWE.out, HHE.out]; rfl
      · rw [HCM.out]
        have h := HEM.out.1
        rw [HZE.out] at h
        exact is_other h hon7 (fun b o e => by have := HEM.out.2 b o e; have := HRQ.out; omega)
end Pw
end Go.Proofs.YtgagophijmiceaaDoor
