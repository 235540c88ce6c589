/- WALK: counter.Print. -/
import Derived.Test.YtfhhnajnanlmgaaGreatDoorCrQ
import Derived.Test.YtfhhnajnanlmgaaGreatDoorCrW
namespace Go.Proofs.YtfhhnajnanlmgaaGreatDoor
set_option linter.unusedSimpArgs false
set_option linter.unusedVariables false
open Go.RowKit
namespace Cr
open Tld Mem Bld

theorem dec_dig {n : Nat} (h : n < 100) : Lib.decDigits n = dig1 n := by
  unfold Lib.decDigits dig1
  by_cases h1 : n < 10
  · rw [dif_pos h1, if_pos h1]
  · rw [dif_neg h1, if_neg h1]
    unfold Lib.decDigits
    rw [dif_pos (by omega)]
    rfl
/-- The numbers behind a word. -/
def nT (xs : List Nat) (j : Nat) : List UInt8 := (xs.take j).flatMap fun x => 32 :: dig1 x
theorem nT_next {xs : List Nat} {j x : Nat} (h : xs[j]? = some x) : nT xs (j + 1) = nT xs j ++ (32 :: dig1 x) := by
  unfold nT
  rw [List.take_add_one, h, List.flatMap_append]
  simp
theorem nT_len (xs : List Nat) (j : Nat) : (nT xs j).length ≤ 3 * j := by
  induction j with
  | zero => simp [nT]
  | succ j ih =>
    rcases h : xs[j]? with _ | x
    · have : nT xs (j + 1) = nT xs j := by unfold nT; rw [List.take_add_one, h]; simp
      rw [this]; omega
    · rw [nT_next h, List.length_append, List.length_cons]
      have := dig1_len x
      omega
theorem itoa_any (n : Nat) (h : n < 100) (w : World) : Calls Tryz.prog 27 #[.int .i64 n] w fun e w' => e = .returned (.string ⟨(dig1 n).toArray⟩) ∧ w' = w := by
  have := Tryz.strconv_Itoa_small n h w
  rw [dec_dig h] at this
  exact this

theorem three {a t e : Nat} (ha : a < 100) (ht : t < 100) (he : e < 100) : ∀ (j x : Nat), [a, t, e][j]? = some x → x < 100
  | 0, x, h => by simp at h; omega
  | 1, x, h => by simp at h; omega
  | 2, x, h => by simp at h; omega
  | j + 3, x, h => by simp at h
theorem three2 (a t e : Nat) : ∀ (j x : Nat), [a, t, e][j]? = some x → ([Value.int .i64 (a : Nat), Value.int .i64 (t : Nat), Value.int .i64 (e : Nat)] : List Value)[j]? = some (Value.int .i64 (x : Nat))
  | 0, x, h => by simp at h; subst h; rfl
  | 1, x, h => by simp at h; subst h; rfl
  | 2, x, h => by simp at h; subst h; rfl
  | j + 3, x, h => by simp at h
theorem word_len (op : Int) : (wordOf op).size ≤ 4 := by
  unfold wordOf
  by_cases h1 : op = 1
  · rw [if_pos h1]; decide
  · rw [if_neg h1]
    by_cases h2 : op = 2
    · rw [if_pos h2]; decide
    · rw [if_neg h2]
      by_cases h3 : op = 3
      · rw [if_pos h3]; decide
      · rw [if_neg h3]; decide
theorem nums_of {op : Int} (a t e : Nat) (h : op = 1 ∨ op = 2 ∨ op = 3) : ∃ nm : Nat, numsOf op = (nm : Int) ∧ nm ≤ 3 ∧ (wordOf op).data.toList ++ nT [a, t, e] nm ++ [10] = (if op = 1 then [105, 110, 99, 32] ++ dig1 a ++ [32] ++ dig1 t ++ [10] else if op = 2 then [100, 101, 99, 32] ++ dig1 a ++ [32] ++ dig1 t ++ [32] ++ dig1 e ++ [10] else [104, 97, 108, 116, 10]) := by
  rcases h with rfl | rfl | rfl
  · exact ⟨2, rfl, by omega, by simp [wordOf, nT]⟩
  · exact ⟨3, rfl, by omega, by simp [wordOf, nT]⟩
  · exact ⟨0, rfl, by omega, by simp [wordOf, nT]⟩

set_option maxHeartbeats 4000000 in
set_option maxRecDepth 1000000 in
theorem Print_bad (sa : Option Addr) (m c : Nat) (f : Nat → Nat → Int) (w : World) (hm : m ≤ 9223372036854775807) (hF : Mem.Rows w sa m 4 (fun i j => .int .i64 (f i j))) (hb : codeF f m ≠ 0) :
    Calls Tryz.prog 10 #[.slice sa m c] w fun e w' => e = .returned (.tuple #[.string ⟨#[]⟩, errV (codeF f m)]) ∧ Below w.heap.size w w' := by
  have hc := check_any sa m c f w hm hF
  rw [errV_some hb] at hc ⊢
  have HC := Lib.hid hc
  clear hc hF hb
  go_enter Tryz.func10, Tryz.ntmps10
  go_wp2_with fail
  refine HC.out.mono ?_
  rintro e1 w1 ⟨rfl, hb1⟩
  have HB := Lib.hid hb1
  clear hb1
  go_wp2_with fail
  go_ret2
  exact ⟨rfl, HB.out⟩

set_option maxHeartbeats 8000000 in
set_option maxRecDepth 1000000 in
theorem Print_ok (sa : Option Addr) (m c : Nat) (f : Nat → Nat → Int) (w : World) (hF : Mem.Rows w sa m 4 (fun i j => .int .i64 (f i j))) (hok : CodeOk f m) :
    Calls Tryz.prog 10 #[.slice sa m c] w fun e w' => e = .returned (.tuple #[.string ⟨(textT f m).toArray⟩, .nilIface]) ∧ Below w.heap.size w w' := by
  have hm12 := hok.2.1
  have hc := check_any sa m c f w (by omega) hF
  rw [codeF_ok hok, errV_zero rfl] at hc
  have HC := Lib.hid hc
  have HF := Lib.hid hF
  have HOK := Lib.hid hok.2.2
  clear hc hF
  go_enter Tryz.func10, Tryz.ntmps10
  go_wp2_with fail
  refine HC.out.mono ?_
  rintro e1 w1 ⟨rfl, hb1⟩
  have HB := Lib.hid hb1
  clear hb1
  go_upto_region 5 with fail
  have hge : w.heap.size ≤ w1.heap.size := HB.out.size
  have hbs := Bld.fresh w1
  have HB := Lib.hid (HB.out.alloc HB.out.size (.cells #[.pointer none, .slice none 0 0] 63))
  have hsz : w1.heap.size < (w1.alloc (.cells #[.pointer none, .slice none 0 0] 63)).heap.size := by simp
  obtain ⟨bb, hbb⟩ : ∃ bb, bb = w1.heap.size := ⟨_, rfl⟩
  rw [← hbb] at hge hbs hsz ⊢
  have HI : Hid (Bld.Is bb bb [] (w1.alloc (.cells #[.pointer none, .slice none 0 0] 63))) := Lib.hid hbs
  clear hbb hbs HC
  generalize w1.alloc (.cells #[.pointer none, .slice none 0 0] 63) = w2 at *
  go_wp2_with fail
  go_loopw [19] (fun v wr => ∃ i : Nat, i ≤ m ∧ v = .int .i64 i ∧ Bld.Is bb bb (textT f i) wr ∧ Below w.heap.size w wr ∧ bb < wr.heap.size) (fun v _ => m - (RowKit.intOf v).toNat)
  case atStart => exact ⟨0, Nat.zero_le _, rfl, HI.out, HB.out, hsz⟩
  case round =>
    clear HI HB hsz
    obtain ⟨i, hi, rfl, hI, hb, hsz⟩ := hrel
    have HIS := Lib.hid hI
    have HB := Lib.hid hb
    clear hI hb
    by_cases hlt : i < m
    · obtain ⟨b, off, rfl, hbl, hrest⟩ := HF.out i hlt
      clear hrest
      have l1 := ins_range ((HF.out).below HB.out (Nat.le_refl _)) hlt
      have hi2 : (i : Int) < (m : Int) := by omega
      have HLT := Lib.hid hlt
      have hio : okI m (f i 0) (f i 1) (f i 2) (f i 3) := HOK.out i hlt
      have HNX := Lib.hid (textT_next f i)
      have HLN := Lib.hid (textT_len f i)
      have HLL : Hid (lineT f i = if f i 0 = 1 then [105, 110, 99, 32] ++ dig1 (f i 1).toNat ++ [32] ++ dig1 (f i 2).toNat ++ [10] else if f i 0 = 2 then [100, 101, 99, 32] ++ dig1 (f i 1).toNat ++ [32] ++ dig1 (f i 2).toNat ++ [32] ++ dig1 (f i 3).toNat ++ [10] else [104, 97, 108, 116, 10]) := Lib.hid rfl
      obtain ⟨x0, hx0⟩ : ∃ x, x = f i 0 := ⟨_, rfl⟩
      obtain ⟨x1, hx1⟩ : ∃ x, x = f i 1 := ⟨_, rfl⟩
      obtain ⟨x2, hx2⟩ : ∃ x, x = f i 2 := ⟨_, rfl⟩
      obtain ⟨x3, hx3⟩ : ∃ x, x = f i 3 := ⟨_, rfl⟩
      rw [← hx0, ← hx1, ← hx2, ← hx3] at hio HLL l1
      clear hx0 hx1 hx2 hx3
      obtain ⟨a0, a3, t0, tm, e0, em, hops⟩ := okI_all hio hlt
      obtain ⟨a, rfl⟩ : ∃ a : Nat, x1 = a := ⟨x1.toNat, by omega⟩
      obtain ⟨t, rfl⟩ : ∃ t : Nat, x2 = t := ⟨x2.toNat, by omega⟩
      obtain ⟨e, rfl⟩ : ∃ e : Nat, x3 = e := ⟨x3.toNat, by omega⟩
      simp only [Int.toNat_natCast] at HLL
      have HA100 := Lib.hid (three (a := a) (t := t) (e := e) (by omega) (by omega) (by omega))
      obtain ⟨nm, hnm, hnm3, hline⟩ := nums_of a t e hops
      have HLINE : Hid ((wordOf x0).data.toList ++ nT [a, t, e] nm ++ [10] = lineT f i) := Lib.hid (by rw [HLL.out]; exact hline)
      have hwl := word_len x0
      clear hline
      have HFO := Lib.hid (formOf_any x0)
      rw [hnm] at HFO
      generalize wordOf x0 = wd at *
      generalize known x0 = kn at *
      clear hnm hops hio a0 a3 t0 tm e0 em HLL
      have hrow : Row (wr.alloc (.cells #[.int .i64 x0, .int .i64 (a : Nat), .int .i64 (t : Nat), .int .i64 (e : Nat)] 34)) wr.heap.size 34 [.int .i64 x0, .int .i64 (a : Nat), .int .i64 (t : Nat), .int .i64 (e : Nat)] := row_alloc wr _ _
      have hbn2 : Below wr.heap.size wr (wr.alloc (.cells #[.int .i64 x0, .int .i64 (a : Nat), .int .i64 (t : Nat), .int .i64 (e : Nat)] 34)) := (Below.refl _ _).alloc (Nat.le_refl _) _
      have HIS := Lib.hid (HIS.out.keep hbn2)
      have HB := Lib.hid (HB.out.trans (hbn2.mono HB.out.size))
      have HE := Lib.hid hrow
      have hsz2 := Nat.lt_of_lt_of_le hsz hbn2.size
      go_upto_region 8 with (refine wpList_load_mid rfl 34 _ rfl b (off + i * 4) rfl _ _ l1 Tryz.underlying34 rfl infoIns ?_; clear l1)
      obtain ⟨b7, hb7⟩ : ∃ b7, b7 = wr.heap.size := ⟨_, rfl⟩
      have HE : Hid (Row (wr.alloc (.cells #[.int .i64 x0, .int .i64 (a : Nat), .int .i64 (t : Nat), .int .i64 (e : Nat)] 34)) wr.heap.size 34 [.int .i64 x0, .int .i64 (a : Nat), .int .i64 (t : Nat), .int .i64 (e : Nat)]) := HE
      have h7b : b7 ≠ bb := by omega
      rw [← hb7] at HE ⊢
      clear hb7 hbn2 hrow hsz
      generalize wr.alloc (.cells #[.int .i64 x0, .int .i64 (a : Nat), .int .i64 (t : Nat), .int .i64 (e : Nat)] 34) = w4 at *
      have c0 := HE.out.cell 0
      dsimp only [List.getElem?_cons_zero] at c0
      go_wp2_with fail
      refine (HFO.out w4).mono ?_
      rintro e9 w5 ⟨rfl, hb9⟩
      have HIS := Lib.hid (HIS.out.keep hb9)
      have HB := Lib.hid (HB.out.trans (hb9.mono HB.out.size))
      have HE := Lib.hid (HE.out.keep hb9 HE.out.lt)
      have hsz5 := Nat.lt_of_lt_of_le hsz2 hb9.size
      clear hb9 c0 hsz2
      go_upto_region 9 with fail
      have hbn6 : Below w5.heap.size w5 (w5.alloc (.cells #[.string wd, .int .i64 (nm : Nat)] 65)) := (Below.refl _ _).alloc (Nat.le_refl _) _
      have HIS := Lib.hid (HIS.out.keep hbn6)
      have HB := Lib.hid (HB.out.trans (hbn6.mono HB.out.size))
      have HE := Lib.hid (HE.out.keep hbn6 HE.out.lt)
      have HG : Hid (Row (w5.alloc (.cells #[.string wd, .int .i64 (nm : Nat)] 65)) w5.heap.size 65 [.string wd, .int .i64 (nm : Nat)]) := Lib.hid (row_alloc w5 _ _)
      have hsz6 := Nat.lt_of_lt_of_le hsz5 hbn6.size
      obtain ⟨b8, hb8⟩ : ∃ b8, b8 = w5.heap.size := ⟨_, rfl⟩
      have h8b : b8 ≠ bb := by omega
      rw [← hb8] at HG ⊢
      clear hb8 hbn6 hsz5
      generalize w5.alloc (.cells #[.string wd, .int .i64 (nm : Nat)] 65) = w6 at *
      have g0 := HG.out.cell 0
      dsimp only [List.getElem?_cons_zero] at g0
      have HWS := Lib.hid (ws_any bb bb (textT f i) wd w6 HIS.out (by have := HLN.out; omega) (Nat.le_of_lt hsz6))
      go_wp2_with fail
      refine HWS.out.mono ?_
      rintro e9 w7 ⟨⟨v9, rfl⟩, hI7, hb7, hk7⟩
      have HIS := Lib.hid hI7
      have HB := Lib.hid (HB.out.trans (hb7.mono hge))
      have HE := Lib.hid (hk7 _ _ _ h7b (by decide) HE.out)
      have HG := Lib.hid (hk7 _ _ _ h8b (by decide) HG.out)
      have hsz7 := Nat.lt_of_lt_of_le hsz6 hb7.size
      clear hI7 hb7 hk7 g0 hsz6 HWS
      have c1 := HE.out.cell 1
      have c2 := HE.out.cell 2
      have c3 := HE.out.cell 3
      have hbn8 : Below w7.heap.size w7 (w7.alloc (.cells #[.int .i64 (a : Nat), .int .i64 (t : Nat), .int .i64 (e : Nat)] 3)) := (Below.refl _ _).alloc (Nat.le_refl _) _
      have HIS := Lib.hid (HIS.out.keep hbn8)
      have HB := Lib.hid (HB.out.trans (hbn8.mono HB.out.size))
      have HG := Lib.hid (HG.out.keep hbn8 HG.out.lt)
      have HN : Hid (Row (w7.alloc (.cells #[.int .i64 (a : Nat), .int .i64 (t : Nat), .int .i64 (e : Nat)] 3)) w7.heap.size 3 [.int .i64 (a : Nat), .int .i64 (t : Nat), .int .i64 (e : Nat)]) := Lib.hid (row_alloc w7 _ _)
      have hsz8 := Nat.lt_of_lt_of_le hsz7 hbn8.size
      have h9b : w7.heap.size ≠ bb := by omega
      have g1 := HG.out.cell 1
      dsimp only [List.getElem?_cons_succ, List.getElem?_cons_zero] at c1 c2 c3 g1
      have hnm9 : (nm : Int) ≤ 3 := by omega
      clear hbn8
      go_upto_region 11 with fail
      obtain ⟨b9, hb9⟩ : ∃ b9, b9 = w7.heap.size := ⟨_, rfl⟩
      rw [← hb9] at HN h9b ⊢
      clear hb9 hsz7 c1 c2 c3 g1 HE HG
      generalize w7.alloc (.cells #[.int .i64 (a : Nat), .int .i64 (t : Nat), .int .i64 (e : Nat)] 3) = w8 at *
      obtain ⟨xs, hxs⟩ : ∃ xs : List Nat, xs = [a, t, e] := ⟨_, rfl⟩
      rw [← hxs] at HA100 HLINE
      have HXC := Lib.hid (three2 a t e)
      rw [← hxs] at HXC
      have hxl : xs.length = 3 := by rw [hxs]; rfl
      clear hxs
      generalize hls : [Value.int .i64 (a : Nat), Value.int .i64 (t : Nat), Value.int .i64 (e : Nat)] = ls at HN HXC
      clear hls
      go_loopw [11, 43] (fun _ v wr => ∃ j : Nat, j ≤ nm ∧ v = .int .i64 j ∧ Bld.Is bb bb (textT f i ++ wd.data.toList ++ nT xs j) wr ∧ Row wr b9 3 ls ∧ Below w.heap.size w wr ∧ bb < wr.heap.size) (fun _ v _ => nm - (RowKit.intOf v).toNat)
      case atStart => exact ⟨0, Nat.zero_le _, rfl, by rw [show nT xs 0 = [] from rfl, List.append_nil]; exact HIS.out, HN.out, HB.out, hsz8⟩
      case round =>
        clear HIS HN HB hsz8
        obtain ⟨j, hj, rfl, hI, hN, hb, hsz⟩ := hrel
        have HIS := Lib.hid hI
        have HN := Lib.hid hN
        have HB := Lib.hid hb
        clear hI hN hb
        by_cases hjn : j < nm
        · have hj3 : j < xs.length := by omega
          have hjx : xs[j]? = some xs[j] := List.getElem?_eq_getElem hj3
          obtain ⟨x, hx⟩ : ∃ x, x = xs[j] := ⟨_, rfl⟩
          rw [← hx] at hjx
          have hx100 := HA100.out j x hjx
          have HNJ := Lib.hid (nT_next hjx)
          have hcx : wr.cell? ⟨b9, j, none⟩ = some (.int .i64 (x : Nat)) := by rw [HN.out.cell]; exact HXC.out j x hjx
          have HIT := Lib.hid (itoa_any x hx100 wr)
          have hdl := dig1_len x
          have hnl := nT_len xs j
          have HWS := Lib.hid (ws_any bb bb (textT f i ++ wd.data.toList ++ nT xs j) (⟨#[32]⟩ ++ ⟨(dig1 x).toArray⟩) wr HIS.out (by
            have := HLN.out
            simp only [List.length_append, ByteArray.size_append, ByteArray.size_mk', Array.length_toList, List.size_toArray, List.length_cons, List.length_nil]
            have h2 : wd.data.size ≤ 4 := hwl
            omega) (Nat.le_of_lt hsz))
          have HJ := Lib.hid hjn
          have hj2 : (j : Int) < (nm : Int) := by omega
          generalize dig1 x = dx at *
          have q1 : ¬ 9223372036854775807 < 1 + dx.length := by omega
          clear hx hjx hx100 hj3 hnl hdl
          go_wp2_with (first
            | (refine HIT.out.mono ?_; rintro e9 w9 ⟨rfl, hw9⟩; rw [hw9])
            | (refine HWS.out.mono ?_))
          rintro e9 w9 ⟨⟨v9, rfl⟩, hI9, hb9, hk9⟩
          have HI9 : Hid (Bld.Is bb bb (textT f i ++ wd.data.toList ++ nT xs (j + 1)) w9) := Lib.hid (by
            rw [HNJ.out]
            simpa using hI9)
          have HN9 := Lib.hid (hk9 _ _ _ h9b (by decide) HN.out)
          have HB9 := Lib.hid (HB.out.trans (hb9.mono hge))
          have hsz9 := Nat.lt_of_lt_of_le hsz hb9.size
          clear hI9 hk9 hb9 hcx HIT HWS
          go_wp2_with fail
          go_roundw
          case rel => exact ⟨j + 1, HJ.out, by go_num, HI9.out, HN9.out, HB9.out, hsz9⟩
          case measure => have := HJ.out; simp [RowKit.intOf]; omega
        · have e : j = nm := by omega
          subst e
          have hnl := nT_len xs j
          have HWB := Lib.hid (wb_any bb bb (textT f i ++ wd.data.toList ++ nT xs j) 10 wr HIS.out (by
            have := HLN.out
            have h2 : wd.data.size ≤ 4 := hwl
            simp only [List.length_append, Array.length_toList]
            omega) (Nat.le_of_lt hsz))
          have hnl9 : ¬ (j : Int) < (j : Int) := by omega
          clear hjn
          go_wp2_with fail
          refine HWB.out.mono ?_
          rintro e9 w9 ⟨rfl, hI9, hb9, hk9⟩
          have HI9 : Hid (Bld.Is bb bb (textT f (i + 1)) w9) := Lib.hid (by
            rw [HNX.out, ← HLINE.out]
            simpa using hI9)
          have HB9 := Lib.hid (HB.out.trans (hb9.mono hge))
          have hsz9 := Nat.lt_of_lt_of_le hsz hb9.size
          clear hI9 hk9 hb9 HWB
          go_wp2_with fail
          go_roundw
          case rel => exact ⟨i + 1, HLT.out, by go_num, HI9.out, HB9.out, hsz9⟩
          case measure => have := HLT.out; simp [RowKit.intOf]; omega
    · have e : i = m := by omega
      subst e
      have hnl9 : ¬ (i : Int) < (i : Int) := by omega
      have HST := Lib.hid (Bld.str bb bb (textT f i) wr HIS.out (Nat.le_of_lt hsz))
      clear hlt
      go_wp2_with fail
      refine HST.out.mono ?_
      rintro e9 w9 ⟨rfl, hb9⟩
      have HB9 := Lib.hid (HB.out.trans (hb9.mono hge))
      clear hb9 HST
      go_wp2_with fail
      go_ret2
      exact ⟨rfl, HB9.out⟩
end Cr
end Go.Proofs.YtfhhnajnanlmgaaGreatDoor
