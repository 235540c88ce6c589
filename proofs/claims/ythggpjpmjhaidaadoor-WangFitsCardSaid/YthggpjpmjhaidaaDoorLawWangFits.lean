/- THE LAW WangFits: its walk, out of its callees' contracts. -/
import Derived.Test.YthggpjpmjhaidaaDoorLawWangDecides
import Derived.Test.YthggpjpmjhaidaaDoorWgFb
import Derived.Test.YthggpjpmjhaidaaDoorWgF3
namespace Go.Proofs.YthggpjpmjhaidaaDoor
set_option linter.unusedSimpArgs false
set_option linter.unusedVariables false
open Go.RowKit Go.Lib
namespace Wg
open Tld Mem Ints

theorem check1_same (a : Option Addr) (n c : Nat) (ts : List Tl) (w : World) (hT : Tiles w a n ts) (f : Int) (hf : f = tfault ts) :
    Calls Tryd.prog 23 #[.slice a n c] w fun e w' => e = .returned (errV f) ∧ Below w.heap.size w w' := by
  rw [hf]; exact check1_any a n c ts w hT
theorem rtiles_same (a : Option Addr) (n c : Nat) (ts : List Tl) (w : World) (hT : Tiles w a n ts) (f : Int) (hf : f = tfault ts) :
    Calls Tryd.prog 22 #[.slice a n c] w fun e w' => e = .returned (.int .i64 f) ∧ Below w.heap.size w w' := by
  rw [hf]; exact rtiles_any a n c ts w hT

set_option maxHeartbeats 8000000 in
set_option maxRecDepth 1000000 in
theorem wangFits_bad (a : Option Addr) (n c : Nat) (ts : List Tl) (W H : Int) (sa : Option Addr) (sn sc : Nat) (zs : List Int) (ring : Bool) (w : World) (hT : Tiles w a n ts) (hsn : zs.length = sn) (hs : sn ≤ maxLen) (hZ : Cells w sa sn (fun i => .int .i64 (zs.getD i 0))) (hg : Laid w) (g : Int) (hg1 : g = tfault ts) (f : Int) (hf : f = zfault ts [W, H]) (hz : f ≠ 0) :
    Calls Tryd.prog 6 #[.slice a n c, .int .i64 W, .int .i64 H, .slice sa sn sc, .bool ring] w fun e w' => e = .returned (.bool true) ∧ Below w.heap.size w w' := by
  have HRT := Lib.hid (rtiles_same a n c ts w hT g hg1)
  have HCH : Hid (∀ w2, Tiles w2 a n ts → Calls Tryd.prog 23 #[.slice a n c] w2 fun e w' => e = .returned (errV g) ∧ Below w2.heap.size w2 w') := fun w2 h2 => check1_same a n c ts w2 h2 g hg1
  have HRS : Hid (∀ w2, Tiles w2 a n ts → Calls Tryd.prog 8 #[.slice a n c, .int .i64 W, .int .i64 H] w2 fun e w' => e = .returned (.int .i64 f) ∧ Below w2.heap.size w2 w') := fun w2 h2 => by
    rw [hf]; exact rsides_any a n c ts W H w2 h2
  have HFB : Hid (∀ w2 : World, Below w.heap.size w w2 → Calls Tryd.prog 25 #[.slice a n c, .int .i64 W, .int .i64 H, .slice sa sn sc, .bool ring] w2 fun e w' => e = .returned (.tuple #[.bool false, .iface 68 (.int .i64 f)]) ∧ Below w2.heap.size w2 w') := fun w2 h2 =>
    fits_bad2 a n c ts W H sa sn sc zs ring w2 (hT.keep h2) hsn (hZ.keep h2) f (by rw [if_pos (by rw [← hf]; exact hz)]; exact hf) hz
  have HFL : Hid (∀ w2 : World, Below w.heap.size w w2 → Calls Tryd.prog 28 #[.slice a n c, .int .i64 W, .int .i64 H, .bool ring] w2 fun e w' => e = .returned (.tuple #[.slice none 0 0, .iface 68 (.int .i64 f)]) ∧ Below w2.heap.size w2 w') := fun w2 h2 => Fill_bad a n c ts W H ring w2 (hT.keep h2) f hf hz
  have hbd : -1000 ≤ f ∧ f ≤ 1000 := by rw [hf]; exact zfault_bd _ _
  have hbg : -1000 ≤ g ∧ g ≤ 1000 := by rw [hg1]; exact tfault_bd _
  have HT := Lib.hid hT
  have HG := Lib.hid hg
  have hf0 : (f == 0) = false := by rw [beq_eq_false_iff_ne]; exact hz
  have HF0 := Lib.hid hz
  clear hT hsn hs hZ hg hg1 hf hz
  go_enter Tryd.func6, Tryd.ntmps6
  go_wp2_with fail
  refine HRT.out.mono ?_
  rintro e1 w1 ⟨rfl, hb1⟩
  go_wp2_with fail
  refine (HCH.out _ (HT.out.keep hb1)).mono ?_
  rintro e2 w2 ⟨rfl, hb2⟩
  have hb2 := hb1.trans (hb2.mono hb1.size)
  go_wp2_with fail
  refine (same_self g _ (HG.out.keep hb2) hbg).mono ?_
  rintro e3 w3 ⟨rfl, hb3⟩
  have hb3 := hb2.trans (hb3.mono hb2.size)
  clear hb1 hb2
  go_wp2_with fail
  refine (HRS.out _ (HT.out.keep hb3)).mono ?_
  rintro e4 w4 ⟨rfl, hb4⟩
  have hb4 := hb3.trans (hb4.mono hb3.size)
  clear hb3
  go_wp2_with fail
  refine (HFB.out _ hb4).mono ?_
  rintro e5 w5 ⟨rfl, hb5⟩
  have hb5 := hb4.trans (hb5.mono hb4.size)
  clear hb4
  go_wp2_with fail
  refine (same_iface f _ (HG.out.keep hb5) hbd HF0.out).mono ?_
  rintro e6 w6 ⟨rfl, hb6⟩
  have hb6 := hb5.trans (hb6.mono hb5.size)
  clear hb5
  go_wp2_with fail
  refine (HFL.out _ hb6).mono ?_
  rintro e7 w7 ⟨rfl, hb7⟩
  have hb7 := hb6.trans (hb7.mono hb6.size)
  clear hb6
  go_wp2_with fail
  refine (same_iface f _ (HG.out.keep hb7) hbd HF0.out).mono ?_
  rintro e8 w8 ⟨rfl, hb8⟩
  have hb8 := hb7.trans (hb8.mono hb7.size)
  clear hb7
  go_wp2_with fail
  refine (ints_any none none 0 0 0 0 [] [] w8 (Is.nil _) (Is.nil _)).mono ?_
  rintro e9 w9 ⟨rfl, hb9⟩
  have hb9 := hb8.trans (hb9.mono hb8.size)
  clear hb8
  rw [decide_eq_true (rfl : ([] : List Int) = [])]
  go_wp2_with fail
  go_ret
  exact ⟨rfl, hb9⟩

set_option maxHeartbeats 8000000 in
set_option maxRecDepth 1000000 in
theorem wangFits_ok (a : Option Addr) (n c : Nat) (ts : List Tl) (W H : Nat) (sa : Option Addr) (sn sc : Nat) (zs : List Int) (ring : Bool) (w : World) (hT : Tiles w a n ts) (hsn : zs.length = sn) (hs : sn ≤ maxLen) (hZ : Cells w sa sn (fun i => .int .i64 (zs.getD i 0))) (hg : Laid w) (hz : zfault ts [(W : Int), (H : Int)] = 0) (f : Int) (hf : f = cfault n ((W : Int) * (H : Int)) zs) :
    Calls Tryd.prog 6 #[.slice a n c, .int .i64 W, .int .i64 H, .slice sa sn sc, .bool ring] w fun e w' => e = .returned (.bool true) ∧ Below w.heap.size w w' := by
  obtain ⟨ht0, ⟨hW1, hW5⟩, hH1, hH5⟩ := zfault_two hz
  have hW1' : 1 ≤ W := by omega
  have hW5' : W ≤ 5 := by omega
  have hH1' : 1 ≤ H := by omega
  have hH5' : H ≤ 5 := by omega
  obtain ⟨hn1, hn16, hts⟩ := tfault_zero ht0
  rw [hT.len] at hn1 hn16
  have hwh : W * H ≤ 25 := Nat.le_trans (Nat.mul_le_mul hW5' hH5') (by omega)
  have hwhi : 0 ≤ (W : Int) * (H : Int) ∧ (W : Int) * (H : Int) ≤ 25 := by
    have e : ((W * H : Nat) : Int) = (W : Int) * (H : Int) := by push_cast; rfl
    omega
  have HRT := Lib.hid (rtiles_same a n c ts w hT 0 ht0.symm)
  have HCH : Hid (∀ w2, Tiles w2 a n ts → Calls Tryd.prog 23 #[.slice a n c] w2 fun e w' => e = .returned (errV 0) ∧ Below w2.heap.size w2 w') := fun w2 h2 => check1_same a n c ts w2 h2 0 ht0.symm
  have HRS : Hid (∀ w2, Tiles w2 a n ts → Calls Tryd.prog 8 #[.slice a n c, .int .i64 W, .int .i64 H] w2 fun e w' => e = .returned (.int .i64 0) ∧ Below w2.heap.size w2 w') := fun w2 h2 => by
    rw [← hz]; exact rsides_any a n c ts W H w2 h2
  have HRC : Hid (∀ w2, Below w.heap.size w w2 → Calls Tryd.prog 24 #[.slice a n c, .int .i64 W, .int .i64 H, .slice sa sn sc] w2 fun e w' => e = .returned (.int .i64 f) ∧ w2 = w') := fun w2 h2 => by
    rw [hf]; exact rcells_any a n c W H sa sn sc zs w2 hsn hs hwhi (hZ.keep h2)
  have HFB : Hid (f ≠ 0 → ∀ w2 : World, Below w.heap.size w w2 → Calls Tryd.prog 25 #[.slice a n c, .int .i64 W, .int .i64 H, .slice sa sn sc, .bool ring] w2 fun e w' => e = .returned (.tuple #[.bool false, .iface 68 (.int .i64 f)]) ∧ Below w2.heap.size w2 w') := fun h0 w2 h2 =>
    fits_bad2 a n c ts W H sa sn sc zs ring w2 (hT.keep h2) hsn (hZ.keep h2) f (by rw [if_neg (fun h => h hz)]; exact hf) h0
  have hc2 : f = 0 → sn = W * H ∧ ∀ z ∈ zs, 0 ≤ z ∧ z < (n : Int) := fun h0 => by
    rw [h0] at hf
    unfold cfault at hf
    split at hf
    · cases hf
    · rename_i h1
      split at hf
      · rename_i h2
        refine ⟨?_, h2⟩
        have e : ((W * H : Nat) : Int) = (W : Int) * (H : Int) := by push_cast; rfl
        rw [hsn] at h1
        omega
      · cases hf
  have HFO : Hid (f = 0 → ∀ w2 : World, Below w.heap.size w w2 → Calls Tryd.prog 25 #[.slice a n c, .int .i64 W, .int .i64 H, .slice sa sn sc, .bool ring] w2 fun e w' => e = .returned (.tuple #[.bool (goodB W H ring (zt ts zs)), .nilIface]) ∧ Below w2.heap.size w2 w') := fun h0 w2 h2 =>
    (fits_ok a n c ts W H sa sn sc zs ring w2 (hT.keep h2) hz hsn (hc2 h0).1 (hc2 h0).2 (hZ.keep h2)).mono fun e w' ⟨⟨b, he, hb⟩, hbl⟩ => ⟨by rw [he, show b = goodB W H ring (zt ts zs) from by rw [Bool.eq_iff_iff, goodB_iff]; exact hb], hbl⟩
  have HRF : Hid (f = 0 → ∀ w2 : World, Below w.heap.size w w2 → Calls Tryd.prog 26 #[.slice a n c, .int .i64 W, .int .i64 H, .slice sa sn sc, .bool ring] w2 fun e w' => e = .returned (.bool (goodB W H ring (zt ts zs))) ∧ Below w2.heap.size w2 w') := fun h0 w2 h2 =>
    rfits_any a n c ts W H sa sn sc zs ring w2 (hT.keep h2) hn16 hW1' hW5' hH1' hH5' hsn (hc2 h0).1 (hc2 h0).2 (hZ.keep h2)
  have HFL : Hid (∀ w2 : World, Below w.heap.size w w2 → Calls Tryd.prog 28 #[.slice a n c, .int .i64 W, .int .i64 H, .bool ring] w2 fun e w' => FillR w2.heap.size (fillS (fun i => ts.getD i noTile) n W H ring) e w' ∧ Below w2.heap.size w2 w') := fun w2 h2 => Fill_ok a n c ts W H ring w2 (hT.keep h2) hz
  have HRL : Hid (∀ w2 : World, Below w.heap.size w w2 → Calls Tryd.prog 27 #[.slice a n c, .int .i64 W, .int .i64 H, .bool ring] w2 fun e w' => RFillR w2.heap.size (fillS (fun i => ts.getD i noTile) n W H ring) e w' ∧ Below w2.heap.size w2 w') := fun w2 h2 => rfill_any a n c ts W H ring w2 (hT.keep h2) hn16 hn1 hW1' hW5' hH1' hH5'
  have HLEN : Hid (∀ l, fillS (fun i => ts.getD i noTile) n W H ring = some l → l.length ≤ maxLen) := fun l hl => by
    rw [(fillS_some hl).2.1]; unfold maxLen; omega
  have hbd : -1000 ≤ f ∧ f ≤ 1000 := by
    rw [hf]; unfold cfault; split
    · omega
    · split <;> omega
  have HT := Lib.hid hT
  have HG := Lib.hid hg
  generalize goodB W H ring (zt ts zs) = gb at *
  generalize fillS (fun i => ts.getD i noTile) n W H ring = o at *
  have hgb : (gb == gb) = true ∧ (gb != gb) = false := by simp
  obtain ⟨hgb1, hgb2⟩ := hgb
  by_cases h0 : f = 0
  case' pos => have hf0 : (f == 0) = true := by rw [beq_iff_eq]; exact h0
  case' neg => have hf0 : (f == 0) = false := by rw [beq_eq_false_iff_ne]; exact h0
  all_goals
    have H0 := Lib.hid h0
    clear hT hsn hs hZ hg hf hz hc2 hts ht0 hn1 hn16 hwh hwhi h0
    go_enter Tryd.func6, Tryd.ntmps6
    go_wp2_with fail
    refine HRT.out.mono ?_
    rintro e1 w1 ⟨rfl, hb1⟩
    go_wp2_with fail
    refine (HCH.out _ (HT.out.keep hb1)).mono ?_
    rintro e2 w2 ⟨rfl, hb2⟩
    have hb2 := hb1.trans (hb2.mono hb1.size)
    go_wp2_with fail
    refine (same_self 0 _ (HG.out.keep hb2) (by decide)).mono ?_
    rintro e3 w3 ⟨rfl, hb3⟩
    have hb3 := hb2.trans (hb3.mono hb2.size)
    clear hb1 hb2
    go_wp2_with fail
    refine (HRS.out _ (HT.out.keep hb3)).mono ?_
    rintro e4 w4 ⟨rfl, hb4⟩
    have hb4 := hb3.trans (hb4.mono hb3.size)
    clear hb3
    go_wp2_with fail
    refine (HRC.out _ hb4).mono ?_
    rintro e4 w4 ⟨rfl, rfl⟩
    go_wp2_with fail
  rotate_left
  · skip
    refine (HFO.out H0.out _ hb4).mono ?_
    rintro e5 w5 ⟨rfl, hb5⟩
    have hb5 := hb4.trans (hb5.mono hb4.size)
    clear hb4
    go_wp2_with fail
    rw [H0.out]
    refine (same_nil _ (HG.out.keep hb5)).mono ?_
    rintro e6 w6 ⟨rfl, hb6⟩
    have hb6 := hb5.trans (hb6.mono hb5.size)
    clear hb5
    go_wp2_with fail
    refine (HRF.out H0.out _ hb6).mono ?_
    rintro e7 w7 ⟨rfl, hb7⟩
    have hb7 := hb6.trans (hb7.mono hb6.size)
    clear hb6
    go_wp2_with fail
    refine (HRL.out _ hb7).mono ?_
    rintro e8 w8 ⟨hd, hb8⟩
    have hb8 := hb7.trans (hb8.mono hb7.size)
    clear hb7
    cases o with
    | none =>
      unfold RFillR at hd
      subst hd
      go_wp2_with fail
      refine (HFL.out _ hb8).mono ?_
      rintro e9 w9 ⟨hd, hb9⟩
      have hb9 := hb8.trans (hb9.mono hb8.size)
      clear hb8
      unfold FillR at hd
      subst hd
      go_wp2_with fail
      refine (same_iface 5 _ (HG.out.keep hb9) (by decide) (by decide)).mono ?_
      rintro e10 w10 ⟨rfl, hb10⟩
      have hb10 := hb9.trans (hb10.mono hb9.size)
      clear hb9
      go_wp2_with fail
      refine (ints_any none none 0 0 0 0 [] [] w10 (Is.nil _) (Is.nil _)).mono ?_
      rintro e11 w11 ⟨rfl, hb11⟩
      have hb11 := hb10.trans (hb11.mono hb10.size)
      clear hb10
      rw [decide_eq_true (rfl : ([] : List Int) = [])]
      go_wp2_with fail
      go_ret
      exact ⟨rfl, hb11⟩
    | some l =>
      have hll := HLEN.out l rfl
      obtain ⟨bb, rfl, _, hrow⟩ := hd
      have HCB := Lib.hid (cells_row hrow)
      clear hrow
      go_wp2_with fail
      refine (HFL.out _ hb8).mono ?_
      rintro e9 w9 ⟨hd, hb9⟩
      have HC9 := Lib.hid (HCB.out.keep hb9)
      have hb9 := hb8.trans (hb9.mono hb8.size)
      clear hb8
      obtain ⟨g, cc, rfl, hown⟩ := hd
      have HCA := Lib.hid (cells_own hown)
      clear hown
      go_wp2_with fail
      refine (same_nil _ (HG.out.keep hb9)).mono ?_
      rintro e10 w10 ⟨rfl, hb10⟩
      have HC10 := Lib.hid (HC9.out.keep hb10)
      have HCA10 := Lib.hid (HCA.out.keep hb10)
      have hb10 := hb9.trans (hb10.mono hb9.size)
      clear hb9
      go_wp2_with fail
      refine (ints_any (some ⟨g, 0, none⟩) (some ⟨bb, 0, none⟩) l.length l.length cc l.length (casts l) (casts l) w10 (is_of HCA10.out hll) (is_of HC10.out hll)).mono ?_
      rintro e11 w11 ⟨rfl, hb11⟩
      have hb11 := hb10.trans (hb11.mono hb10.size)
      clear hb10
      rw [decide_eq_true (rfl : casts l = casts l)]
      go_wp2_with fail
      go_ret
      exact ⟨rfl, hb11⟩
  · skip
    refine (HFB.out H0.out _ hb4).mono ?_
    rintro e5 w5 ⟨rfl, hb5⟩
    have hb5 := hb4.trans (hb5.mono hb4.size)
    clear hb4
    go_wp2_with fail
    refine (same_iface f _ (HG.out.keep hb5) hbd H0.out).mono ?_
    rintro e7 w7 ⟨rfl, hb7⟩
    have hb7 := hb5.trans (hb7.mono hb5.size)
    clear hb5
    go_wp2_with fail
    refine (HRL.out _ hb7).mono ?_
    rintro e8 w8 ⟨hd, hb8⟩
    have hb8 := hb7.trans (hb8.mono hb7.size)
    clear hb7
    cases o with
    | none =>
      unfold RFillR at hd
      subst hd
      go_wp2_with fail
      refine (HFL.out _ hb8).mono ?_
      rintro e9 w9 ⟨hd, hb9⟩
      have hb9 := hb8.trans (hb9.mono hb8.size)
      clear hb8
      unfold FillR at hd
      subst hd
      go_wp2_with fail
      refine (same_iface 5 _ (HG.out.keep hb9) (by decide) (by decide)).mono ?_
      rintro e10 w10 ⟨rfl, hb10⟩
      have hb10 := hb9.trans (hb10.mono hb9.size)
      clear hb9
      go_wp2_with fail
      refine (ints_any none none 0 0 0 0 [] [] w10 (Is.nil _) (Is.nil _)).mono ?_
      rintro e11 w11 ⟨rfl, hb11⟩
      have hb11 := hb10.trans (hb11.mono hb10.size)
      clear hb10
      rw [decide_eq_true (rfl : ([] : List Int) = [])]
      go_wp2_with fail
      go_ret
      exact ⟨rfl, hb11⟩
    | some l =>
      have hll := HLEN.out l rfl
      obtain ⟨bb, rfl, _, hrow⟩ := hd
      have HCB := Lib.hid (cells_row hrow)
      clear hrow
      go_wp2_with fail
      refine (HFL.out _ hb8).mono ?_
      rintro e9 w9 ⟨hd, hb9⟩
      have HC9 := Lib.hid (HCB.out.keep hb9)
      have hb9 := hb8.trans (hb9.mono hb8.size)
      clear hb8
      obtain ⟨g, cc, rfl, hown⟩ := hd
      have HCA := Lib.hid (cells_own hown)
      clear hown
      go_wp2_with fail
      refine (same_nil _ (HG.out.keep hb9)).mono ?_
      rintro e10 w10 ⟨rfl, hb10⟩
      have HC10 := Lib.hid (HC9.out.keep hb10)
      have HCA10 := Lib.hid (HCA.out.keep hb10)
      have hb10 := hb9.trans (hb10.mono hb9.size)
      clear hb9
      go_wp2_with fail
      refine (ints_any (some ⟨g, 0, none⟩) (some ⟨bb, 0, none⟩) l.length l.length cc l.length (casts l) (casts l) w10 (is_of HCA10.out hll) (is_of HC10.out hll)).mono ?_
      rintro e11 w11 ⟨rfl, hb11⟩
      have hb11 := hb10.trans (hb11.mono hb10.size)
      clear hb10
      rw [decide_eq_true (rfl : casts l = casts l)]
      go_wp2_with fail
      go_ret
      exact ⟨rfl, hb11⟩

theorem wangFits_any (a : Option Addr) (n c : Nat) (ts : List Tl) (W H : Int) (sa : Option Addr) (sn sc : Nat) (zs : List Int) (ring : Bool) (w : World) (hT : Tiles w a n ts) (hsn : zs.length = sn) (hs : sn ≤ maxLen) (hZ : Cells w sa sn (fun i => .int .i64 (zs.getD i 0))) (hg : Laid w) :
    Calls Tryd.prog 6 #[.slice a n c, .int .i64 W, .int .i64 H, .slice sa sn sc, .bool ring] w fun e w' => e = .returned (.bool true) ∧ Below w.heap.size w w' := by
  by_cases hz : zfault ts [W, H] = 0
  · obtain ⟨_, ⟨h1, _⟩, h2, _⟩ := zfault_two hz
    obtain ⟨m, rfl⟩ := Int.eq_ofNat_of_zero_le (show 0 ≤ W by omega)
    obtain ⟨k, rfl⟩ := Int.eq_ofNat_of_zero_le (show 0 ≤ H by omega)
    exact wangFits_ok a n c ts m k sa sn sc zs ring w hT hsn hs hZ hg hz _ rfl
  · exact wangFits_bad a n c ts W H sa sn sc zs ring w hT hsn hs hZ hg _ rfl _ rfl hz
end Wg
end Go.Proofs.YthggpjpmjhaidaaDoor
