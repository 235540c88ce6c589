/- THE LAW WangDecides: its walk, out of its callees' contracts. -/
import Derived.Test.YthggpjpmjhaidaaDoorWgRDc
import Derived.Test.YthggpjpmjhaidaaDoorWgR
import Derived.Test.YthggpjpmjhaidaaDoorSame
import Derived.Test.YthggpjpmjhaidaaDoorInts
namespace Go.Proofs.YthggpjpmjhaidaaDoor
set_option linter.unusedSimpArgs false
set_option linter.unusedVariables false
open Go.RowKit Go.Lib
namespace Wg
open Tld Mem Ints

theorem zfault_same (ts : List Tl) (m : Int) : zfault ts [m, m] = zfault ts [m] := by
  unfold zfault
  simp
theorem tfault_bd (ts : List Tl) : -1000 ≤ tfault ts ∧ tfault ts ≤ 1000 := by
  unfold tfault
  split
  · omega
  · split <;> omega
theorem zfault_bd (ts : List Tl) (zs : List Int) : -1000 ≤ zfault ts zs ∧ zfault ts zs ≤ 1000 := by
  unfold zfault
  split
  · exact tfault_bd ts
  · split <;> omega
theorem casts_length (l : List Nat) : (casts l).length = l.length := by unfold casts; simp
theorem is_of {w : World} {ad : Option Addr} {l : List Nat} (h : Cells w ad l.length (fun i => .int .i64 ((casts l).getD i 0))) (hl : l.length ≤ maxLen) : Is w ad l.length (casts l) := ⟨casts_length l, h, hl⟩

set_option maxHeartbeats 8000000 in
set_option maxRecDepth 1000000 in
theorem wangDecides_bad (a : Option Addr) (n c : Nat) (ts : List Tl) (most : Int) (w : World) (hT : Tiles w a n ts) (hg : Laid w) (f : Int) (hf : f = zfault ts [most]) (hz : f ≠ 0) :
    Calls Tryd.prog 3 #[.slice a n c, .int .i64 most] w fun e w' => e = .returned (.bool true) ∧ Below w.heap.size w w' := by
  have HR := rsides_any a n c ts most most w hT
  rw [zfault_same, ← hf] at HR
  have HR := Lib.hid HR
  have HDB : Hid (∀ w2 : World, Tiles w2 a n ts → Calls Tryd.prog 10 #[.slice a n c, .int .i64 most] w2 fun e w' => e = .returned (.tuple #[.agg #[.bool false, .int .i64 0, .int .i64 0, .slice none 0 0], .iface 68 (.int .i64 f)]) ∧ Below w2.heap.size w2 w') := fun w2 h2 => Decide_bad a n c ts most w2 h2 f hf hz
  have hbd : -1000 ≤ f ∧ f ≤ 1000 := by rw [hf]; exact zfault_bd _ _
  have HT := Lib.hid hT
  have HG := Lib.hid hg
  have hf0 : (f == 0) = false := by rw [beq_eq_false_iff_ne]; exact hz
  have HF0 := Lib.hid hz
  clear hT hg hf hz
  go_enter Tryd.func3, Tryd.ntmps3
  go_wp2_with fail
  refine HR.out.mono ?_
  rintro e1 w1 ⟨rfl, hb1⟩
  have hs6 := hb1.size
  go_upto_region 3 with fail
  have hr2 := row_alloc w1 26 dec0
  have hbx : Below w1.heap.size w1 (w1.alloc (.cells dec0.toArray 26)) := (Below.refl _ _).alloc (Nat.le_refl _) _
  have HB2 := Lib.hid (hb1.trans (hbx.mono hb1.size))
  have HR2 := Lib.hid hr2
  clear hb1 hr2 hbx
  unfold dec0 at HB2 HR2
  obtain ⟨b6, hb6⟩ : ∃ b, b = w1.heap.size := ⟨_, rfl⟩
  rw [← hb6] at HR2 hs6 ⊢
  clear hb6
  generalize w1.alloc (.cells [Value.bool false, .int .i64 0, .int .i64 0, .slice none 0 0].toArray 26) = w2 at *
  go_wp2_with fail
  refine (HDB.out _ (HT.out.keep HB2.out)).mono ?_
  rintro e3 w3 ⟨rfl, hb3⟩
  have hs2 := HB2.out.size
  have hrow3 := HR2.out.keep hb3 HR2.out.lt
  have hb3 := HB2.out.trans (hb3.mono hs2)
  go_upto_region 10 with fail
  have hr4 := row_alloc w3 26 dec0
  have hbx : Below w3.heap.size w3 (w3.alloc (.cells dec0.toArray 26)) := (Below.refl _ _).alloc (Nat.le_refl _) _
  have HB4 := Lib.hid (hb3.trans (hbx.mono hb3.size))
  have HR4 := Lib.hid hr4
  have HR6 := Lib.hid (hrow3.keep hbx hrow3.lt)
  clear hb3 hr4 hbx hrow3 HB2 HR2
  unfold dec0 at HB4 HR4 HR6
  obtain ⟨b9, hb9⟩ : ∃ b, b = w3.heap.size := ⟨_, rfl⟩
  rw [← hb9] at HR4 ⊢
  clear hb9
  generalize w3.alloc (.cells [Value.bool false, .int .i64 0, .int .i64 0, .slice none 0 0].toArray 26) = w4 at *
  go_wp2_with fail
  refine (same_iface _ _ (HG.out.keep HB4.out) hbd HF0.out).mono ?_
  rintro e5 w5 ⟨rfl, hb5⟩
  have HR9 := Lib.hid (HR4.out.keep hb5 HR4.out.lt)
  have HR8 := Lib.hid (HR6.out.keep hb5 HR6.out.lt)
  have HB5 := Lib.hid (HB4.out.trans (hb5.mono HB4.out.size))
  clear hb5 HB4 HR4 HR6
  have p3 := HR9.out.cell 3
  have q3 := HR8.out.cell 3
  dsimp only [List.getElem?_cons_succ, List.getElem?_cons_zero] at p3 q3
  go_wp2_with fail
  refine (ints_any none none 0 0 0 0 [] [] w5 (Is.nil _) (Is.nil _)).mono ?_
  rintro e6 w6 ⟨rfl, hb6⟩
  have HRA := Lib.hid (HR9.out.keep hb6 HR9.out.lt)
  have HRB := Lib.hid (HR8.out.keep hb6 HR8.out.lt)
  have HB6 := Lib.hid (HB5.out.trans (hb6.mono HB5.out.size))
  clear hb6 p3 q3
  have p0 := HRA.out.cell 0
  have p1 := HRA.out.cell 1
  have p2 := HRA.out.cell 2
  have q0 := HRB.out.cell 0
  have q1 := HRB.out.cell 1
  have q2 := HRB.out.cell 2
  dsimp only [List.getElem?_cons_succ, List.getElem?_cons_zero] at p0 p1 p2 q0 q1 q2
  rw [decide_eq_true (rfl : ([] : List Int) = [])]
  go_wp2_with fail
  go_ret
  exact ⟨rfl, HB6.out⟩

set_option maxHeartbeats 8000000 in
set_option maxRecDepth 1000000 in
theorem wangDecides_ok (a : Option Addr) (n c : Nat) (ts : List Tl) (most : Nat) (w : World) (hT : Tiles w a n ts) (hg : Laid w) (hz : zfault ts [(most : Int)] = 0) :
    Calls Tryd.prog 3 #[.slice a n c, .int .i64 most] w fun e w' => e = .returned (.bool true) ∧ Below w.heap.size w w' := by
  have HR := rsides_any a n c ts most most w hT
  rw [zfault_same, hz] at HR
  have HR := Lib.hid HR
  have HD : Hid (∀ w2 : World, Tiles w2 a n ts → Calls Tryd.prog 10 #[.slice a n c, .int .i64 most] w2 fun e w' => DecR w2.heap.size (decS (fun i => ts.getD i noTile) n most) e w' ∧ Below w2.heap.size w2 w') := fun w2 h2 => Decide_ok a n c ts most w2 h2 hz
  have HRD : Hid (∀ w2 : World, Tiles w2 a n ts → Calls Tryd.prog 9 #[.slice a n c, .int .i64 most] w2 fun e w' => RDecR w2.heap.size (decS (fun i => ts.getD i noTile) n most) e w' ∧ Below w2.heap.size w2 w') := fun w2 h2 => rdecide_any a n c ts most w2 h2 hz
  have HOK : Hid (∀ d, decS (fun i => ts.getD i noTile) n most = some d → d.cells.length ≤ maxLen) := fun d hd => by
    obtain ⟨ht0, hW1, hW5⟩ := zfault_most hz
    have ho := decS_ok hd
    cases htr : d.torus with
    | true =>
      have := (fillS_some (ho.yes htr)).2.1
      have h1 : d.wide * d.high ≤ 5 * 5 := Nat.mul_le_mul (by have := ho.w2; omega) (by have := ho.h2; omega)
      unfold maxLen; omega
    | false => rw [(ho.no htr).1]; exact Nat.zero_le _
  have HT := Lib.hid hT
  have HG := Lib.hid hg
  generalize decS (fun i => ts.getD i noTile) n most = o at *
  clear hT hg hz
  go_enter Tryd.func3, Tryd.ntmps3
  go_wp2_with fail
  refine HR.out.mono ?_
  rintro e1 w1 ⟨rfl, hb1⟩
  have hs6 := hb1.size
  go_upto_region 3 with fail
  have hr2 := row_alloc w1 26 dec0
  have hbx : Below w1.heap.size w1 (w1.alloc (.cells dec0.toArray 26)) := (Below.refl _ _).alloc (Nat.le_refl _) _
  have HB2 := Lib.hid (hb1.trans (hbx.mono hb1.size))
  have HR2 := Lib.hid hr2
  clear hb1 hr2 hbx
  unfold dec0 at HB2 HR2
  obtain ⟨b6, hb6⟩ : ∃ b, b = w1.heap.size := ⟨_, rfl⟩
  rw [← hb6] at HR2 hs6 ⊢
  clear hb6
  generalize w1.alloc (.cells [Value.bool false, .int .i64 0, .int .i64 0, .slice none 0 0].toArray 26) = w2 at *
  go_wp2_with fail
  refine (HRD.out _ (HT.out.keep HB2.out)).mono ?_
  rintro e3 w3 ⟨hd, hb3⟩
  have hs2 := HB2.out.size
  have HR3 := Lib.hid (HR2.out.keep hb3 HR2.out.lt)
  have HB3 := Lib.hid (HB2.out.trans (hb3.mono hs2))
  have HR6lt : Hid (b6 < w2.heap.size) := HR2.out.lt
  clear hb3 HB2 HR2 HRD
  cases o with
  | some d =>
    have hdl := HOK.out d rfl
    obtain ⟨ad, cc, rfl, hcel, hlow⟩ := hd
    have HLOW : Hid (∀ x, ad = some x → x.block ≠ b6) := fun x hx => by have h1 := hlow x hx; have h2 := HR6lt.out; omega
    have HC3 := Lib.hid hcel
    clear hlow
    clear hcel HOK
    go_upto_region 5 with fail
    have hr4 := row_alloc w3 26 [.bool d.torus, .int .i64 d.wide, .int .i64 d.high, .slice ad d.cells.length cc]
    have hbx : Below w3.heap.size w3 (w3.alloc (.cells [.bool d.torus, .int .i64 d.wide, .int .i64 d.high, .slice ad d.cells.length cc].toArray 26)) := (Below.refl _ _).alloc (Nat.le_refl _) _
    have HB4 := Lib.hid (HB3.out.trans (hbx.mono HB3.out.size))
    have HR4 := Lib.hid hr4
    have HR6 := Lib.hid (HR3.out.keep hbx HR3.out.lt)
    have HC4 := Lib.hid (HC3.out.keep hbx)
    have hne : b6 ≠ w3.heap.size := by have := HR3.out.lt; omega
    clear hr4 hbx HR3 HB3 HC3
    obtain ⟨b7, hb7⟩ : ∃ b, b = w3.heap.size := ⟨_, rfl⟩
    rw [← hb7] at HR4 hne ⊢
    clear hb7
    generalize w3.alloc (.cells [Value.bool d.torus, .int .i64 d.wide, .int .i64 d.high, .slice ad d.cells.length cc].toArray 26) = w4 at *
    have hi4 : (Tryd.prog.info? 26).map (·.size) = some [Value.bool d.torus, .int .i64 d.wide, .int .i64 d.high, .slice ad d.cells.length cc].length := infoDec
    have h14 : ∀ v ∈ [Value.bool d.torus, .int .i64 d.wide, .int .i64 d.high, .slice ad d.cells.length cc], v.oneCell' = true := by simp [Value.oneCell']
    go_upto_region 6 with (first | (refine wpList_load_mid rfl 26 _ rfl b7 0 rfl _ _ (row_range HR4.out) Tryd.underlying26 rfl hi4 ?_) | (refine Ops.wpList_store_arr rfl 26 _ _ rfl b6 rfl 26 _ _ rfl HR6.out rfl hi4 h14 ?_; intro w5 hrow5 hon5))
    have HB5 := Lib.hid (HB4.out.trans (hon5.below hs6))
    have HR5 := Lib.hid hrow5
    have HC5 := Lib.hid (HC4.out.other hon5 HLOW.out)
    clear hrow5 hon5 HR4 HR6 HC4 HB4 hi4 h14
    go_wp2_with fail
    refine (HD.out _ (HT.out.keep HB5.out)).mono ?_
    rintro e6 w6 ⟨hd, hb6⟩
    have HR6 := Lib.hid (HR5.out.keep hb6 HR5.out.lt)
    have HC6 := Lib.hid (HC5.out.keep hb6)
    have HB6 := Lib.hid (HB5.out.trans (hb6.mono HB5.out.size))
    clear hb6 HR5 HC5 HB5 HD
    obtain ⟨ad2, cc2, rfl, hown⟩ := hd
    have HO6 := Lib.hid (cells_own hown)
    clear hown
    go_upto_region 10 with fail
    have hr7 := row_alloc w6 26 [.bool d.torus, .int .i64 d.wide, .int .i64 d.high, .slice ad2 d.cells.length cc2]
    have hbx : Below w6.heap.size w6 (w6.alloc (.cells [.bool d.torus, .int .i64 d.wide, .int .i64 d.high, .slice ad2 d.cells.length cc2].toArray 26)) := (Below.refl _ _).alloc (Nat.le_refl _) _
    have HB7 := Lib.hid (HB6.out.trans (hbx.mono HB6.out.size))
    have HR9 := Lib.hid hr7
    have HR7 := Lib.hid (HR6.out.keep hbx HR6.out.lt)
    have HC7 := Lib.hid (HC6.out.keep hbx)
    have HO7 := Lib.hid (HO6.out.keep hbx)
    clear hr7 hbx HR6 HC6 HB6 HO6
    obtain ⟨b9, hb9⟩ : ∃ b, b = w6.heap.size := ⟨_, rfl⟩
    rw [← hb9] at HR9 ⊢
    clear hb9
    generalize w6.alloc (.cells [Value.bool d.torus, .int .i64 d.wide, .int .i64 d.high, .slice ad2 d.cells.length cc2].toArray 26) = w7 at *
    go_wp2_with fail
    refine (same_nil _ (HG.out.keep HB7.out)).mono ?_
    rintro e8 w8 ⟨rfl, hb8⟩
    have HRA := Lib.hid (HR9.out.keep hb8 HR9.out.lt)
    have HRB := Lib.hid (HR7.out.keep hb8 HR7.out.lt)
    have HCA := Lib.hid (HO7.out.keep hb8)
    have HCB := Lib.hid (HC7.out.keep hb8)
    have HB8 := Lib.hid (HB7.out.trans (hb8.mono HB7.out.size))
    clear hb8 HR9 HR7 HO7 HC7 HB7
    have p3 := HRA.out.cell 3
    have q3 := HRB.out.cell 3
    dsimp only [List.getElem?_cons_succ, List.getElem?_cons_zero] at p3 q3
    go_wp2_with fail
    refine (ints_any ad2 ad d.cells.length d.cells.length cc2 cc (casts d.cells) (casts d.cells) w8 (is_of HCA.out hdl) (is_of HCB.out hdl)).mono ?_
    rintro e9 w9 ⟨rfl, hb9⟩
    have HRC := Lib.hid (HRA.out.keep hb9 HRA.out.lt)
    have HRD := Lib.hid (HRB.out.keep hb9 HRB.out.lt)
    have HB9 := Lib.hid (HB8.out.trans (hb9.mono HB8.out.size))
    clear hb9 p3 q3 HCA HCB HRA HRB HB8
    have p0 := HRC.out.cell 0
    have p1 := HRC.out.cell 1
    have p2 := HRC.out.cell 2
    have q0 := HRD.out.cell 0
    have q1 := HRD.out.cell 1
    have q2 := HRD.out.cell 2
    dsimp only [List.getElem?_cons_succ, List.getElem?_cons_zero] at p0 p1 p2 q0 q1 q2
    rw [decide_eq_true (rfl : casts d.cells = casts d.cells)]
    go_wp2_with fail
    go_ret
    exact ⟨rfl, HB9.out⟩
  | none =>
    unfold RDecR at hd
    subst hd
    clear HOK
    go_upto_region 5 with fail
    have hr4 := row_alloc w3 26 dec0
    have hbx : Below w3.heap.size w3 (w3.alloc (.cells dec0.toArray 26)) := (Below.refl _ _).alloc (Nat.le_refl _) _
    have HB4 := Lib.hid (HB3.out.trans (hbx.mono HB3.out.size))
    have HR4 := Lib.hid hr4
    have HR6 := Lib.hid (HR3.out.keep hbx HR3.out.lt)
    clear hr4 hbx HR3 HB3
    obtain ⟨b7, hb7⟩ : ∃ b, b = w3.heap.size := ⟨_, rfl⟩
    unfold dec0 at HB4 HR4 HR6
    rw [← hb7] at HR4 ⊢
    clear hb7
    generalize w3.alloc (.cells [Value.bool false, .int .i64 0, .int .i64 0, .slice none 0 0].toArray 26) = w4 at *
    have hi4 : (Tryd.prog.info? 26).map (·.size) = some [Value.bool false, .int .i64 0, .int .i64 0, .slice none 0 0].length := infoDec
    have h14 : ∀ v ∈ [Value.bool false, .int .i64 0, .int .i64 0, .slice none 0 0], v.oneCell' = true := by simp [Value.oneCell']
    go_upto_region 6 with (first | (refine wpList_load_mid rfl 26 _ rfl b7 0 rfl _ _ (row_range HR4.out) Tryd.underlying26 rfl hi4 ?_) | (refine Ops.wpList_store_arr rfl 26 _ _ rfl b6 rfl 26 _ _ rfl HR6.out rfl hi4 h14 ?_; intro w5 hrow5 hon5))
    have HB5 := Lib.hid (HB4.out.trans (hon5.below hs6))
    have HR5 := Lib.hid hrow5
    clear hrow5 hon5 HR4 HR6 HB4
    go_upto_region 8 with (refine Ops.wpList_store_arr rfl 26 _ _ rfl b6 rfl 26 _ _ rfl HR5.out rfl hi4 h14 ?_; intro w5' hrow5' hon5')
    have HB5' := Lib.hid (HB5.out.trans (hon5'.below hs6))
    have HR5' := Lib.hid hrow5'
    clear hrow5' hon5' HR5 HB5 hi4 h14
    go_wp2_with fail
    refine (HD.out _ (HT.out.keep HB5'.out)).mono ?_
    rintro e6 w6 ⟨hd, hb6⟩
    have HR6 := Lib.hid (HR5'.out.keep hb6 HR5'.out.lt)
    have HB6 := Lib.hid (HB5'.out.trans (hb6.mono HB5'.out.size))
    clear hb6 HR5' HB5' HD
    unfold DecR at hd
    subst hd
    go_upto_region 10 with fail
    have hr7 := row_alloc w6 26 dec0
    have hbx : Below w6.heap.size w6 (w6.alloc (.cells dec0.toArray 26)) := (Below.refl _ _).alloc (Nat.le_refl _) _
    have HB7 := Lib.hid (HB6.out.trans (hbx.mono HB6.out.size))
    have HR9 := Lib.hid hr7
    have HR7 := Lib.hid (HR6.out.keep hbx HR6.out.lt)
    clear hr7 hbx HR6 HB6
    unfold dec0 at HB7 HR9 HR7
    obtain ⟨b9, hb9⟩ : ∃ b, b = w6.heap.size := ⟨_, rfl⟩
    rw [← hb9] at HR9 ⊢
    clear hb9
    generalize w6.alloc (.cells [Value.bool false, .int .i64 0, .int .i64 0, .slice none 0 0].toArray 26) = w7 at *
    go_wp2_with fail
    refine (same_iface 6 _ (HG.out.keep HB7.out) (by decide) (by decide)).mono ?_
    rintro e8 w8 ⟨rfl, hb8⟩
    have HRA := Lib.hid (HR9.out.keep hb8 HR9.out.lt)
    have HRB := Lib.hid (HR7.out.keep hb8 HR7.out.lt)
    have HB8 := Lib.hid (HB7.out.trans (hb8.mono HB7.out.size))
    clear hb8 HR9 HR7 HB7
    have p3 := HRA.out.cell 3
    have q3 := HRB.out.cell 3
    dsimp only [List.getElem?_cons_succ, List.getElem?_cons_zero] at p3 q3
    go_wp2_with fail
    refine (ints_any none none 0 0 0 0 [] [] w8 (Is.nil _) (Is.nil _)).mono ?_
    rintro e9 w9 ⟨rfl, hb9⟩
    have HRC := Lib.hid (HRA.out.keep hb9 HRA.out.lt)
    have HRD := Lib.hid (HRB.out.keep hb9 HRB.out.lt)
    have HB9 := Lib.hid (HB8.out.trans (hb9.mono HB8.out.size))
    clear hb9 p3 q3 HRA HRB HB8
    have p0 := HRC.out.cell 0
    have p1 := HRC.out.cell 1
    have p2 := HRC.out.cell 2
    have q0 := HRD.out.cell 0
    have q1 := HRD.out.cell 1
    have q2 := HRD.out.cell 2
    dsimp only [List.getElem?_cons_succ, List.getElem?_cons_zero] at p0 p1 p2 q0 q1 q2
    rw [decide_eq_true (rfl : ([] : List Int) = [])]
    go_wp2_with fail
    go_ret
    exact ⟨rfl, HB9.out⟩

theorem wangDecides_any (a : Option Addr) (n c : Nat) (ts : List Tl) (most : Int) (w : World) (hT : Tiles w a n ts) (hg : Laid w) :
    Calls Tryd.prog 3 #[.slice a n c, .int .i64 most] w fun e w' => e = .returned (.bool true) ∧ Below w.heap.size w w' := by
  by_cases hz : zfault ts [most] = 0
  · obtain ⟨_, h1, _⟩ := zfault_most hz
    obtain ⟨m, rfl⟩ := Int.eq_ofNat_of_zero_le (show 0 ≤ most by omega)
    exact wangDecides_ok a n c ts m w hT hg hz
  · exact wangDecides_bad a n c ts most w hT hg _ rfl hz
end Wg
end Go.Proofs.YthggpjpmjhaidaaDoor
