/- WALK: counter.Run. -/
import Derived.Test.YtfhhnajnanlmgaaGreatDoorCrR
import Derived.Test.YtfhhnajnanlmgaaGreatDoorShelf
namespace Go.Proofs.YtfhhnajnanlmgaaGreatDoor
set_option linter.unusedSimpArgs false
set_option linter.unusedVariables false
open Go.RowKit
namespace Cr
open Tld Mem

set_option maxHeartbeats 4000000 in
set_option maxRecDepth 1000000 in
theorem Run_code (sa : Option Addr) (m c : Nat) (f : Nat → Nat → Int) (ca : Option Addr) (cn cc : Nat) (F : Int) (w : World) (hm : m ≤ 9223372036854775807) (hF : Mem.Rows w sa m 4 (fun i j => .int .i64 (f i j))) (hb : codeF f m ≠ 0) :
    Calls Tryz.prog 9 #[.slice sa m c, .slice ca cn cc, .int .i64 F] w fun e w' => e = .returned (.tuple #[.slice none 0 0, .int .i64 0, errV (codeF f m)]) ∧ Below w.heap.size w w' := by
  have hc := check_any sa m c f w hm hF
  rw [errV_some hb] at hc ⊢
  have HC := Lib.hid hc
  clear hc hF hb
  go_enter Tryz.func9, Tryz.ntmps9
  go_wp2_with fail
  refine HC.out.mono ?_
  rintro e1 w1 ⟨rfl, hb1⟩
  have HB := Lib.hid hb1
  clear hb1
  go_wp2_with fail
  go_ret3
  exact ⟨rfl, HB.out⟩

set_option maxHeartbeats 4000000 in
set_option maxRecDepth 1000000 in
theorem Run_len (sa : Option Addr) (m c : Nat) (f : Nat → Nat → Int) (ca : Option Addr) (cn cc : Nat) (F : Int) (w : World) (hF : Mem.Rows w sa m 4 (fun i j => .int .i64 (f i j))) (hok : CodeOk f m) (h4 : cn ≠ 4) (hcn : cn ≤ 9223372036854775807) :
    Calls Tryz.prog 9 #[.slice sa m c, .slice ca cn cc, .int .i64 F] w fun e w' => e = .returned (.tuple #[.slice none 0 0, .int .i64 0, errV 3]) ∧ Below w.heap.size w w' := by
  have hc := check_any sa m c f w (by have := hok.2.1; omega) hF
  rw [codeF_ok hok, errV_zero rfl] at hc
  have HC := Lib.hid hc
  have e4 : ((cn : Int) == 4) = false := beq_eq_false_iff_ne.2 (by omega)
  have e4' : ((cn : Int) != 4) = true := by rw [bne, e4]; rfl
  have e4'' := @decide_eq_false (cn = 4) _ h4
  clear hc hF h4
  go_enter Tryz.func9, Tryz.ntmps9
  go_wp2_with fail
  refine HC.out.mono ?_
  rintro e1 w1 ⟨rfl, hb1⟩
  have HB := Lib.hid hb1
  clear hb1
  go_wp2_with fail
  go_ret3
  exact ⟨rfl, HB.out⟩

theorem okI_any2 {m i : Nat} {op a t e : Int} (h : okI m op a t e) (hi : i < m) : 0 ≤ a ∧ a ≤ 3 ∧ 0 ≤ t ∧ t < m ∧ 0 ≤ e ∧ e < m ∧ (op = 1 ∨ op = 2 ∨ op = 3) := by unfold okI at h; omega
/-- Fuel or counters out of range. -/
def RBad (F : Int) (zs : List Int) : Prop := F < 0 ∨ 100000 < F ∨ zs.any cbad = true
set_option maxHeartbeats 4000000 in
set_option maxRecDepth 1000000 in
theorem Run_range (sa : Option Addr) (m c : Nat) (f : Nat → Nat → Int) (ca : Option Addr) (cc : Nat) (zs : List Int) (F : Int) (w : World) (hF : Mem.Rows w sa m 4 (fun i j => .int .i64 (f i j))) (hok : CodeOk f m) (hZ : Ints.Is w ca 4 zs) (hb : RBad F zs) :
    Calls Tryz.prog 9 #[.slice sa m c, .slice ca 4 cc, .int .i64 F] w fun e w' => e = .returned (.tuple #[.slice none 0 0, .int .i64 0, errV 1]) ∧ Below w.heap.size w w' := by
  have hc := check_any sa m c f w (by have := hok.2.1; omega) hF
  rw [codeF_ok hok, errV_zero rfl] at hc
  have HC := Lib.hid hc
  have HZ := Lib.hid hZ
  clear hc hF hZ
  go_enter Tryz.func9, Tryz.ntmps9
  go_wp2_with fail
  refine HC.out.mono ?_
  rintro e1 w1 ⟨rfl, hb1⟩
  have HB := Lib.hid hb1
  have HCC := Lib.hid (ccontains_any ca 4 cc zs w1 (HZ.out.keep hb1))
  clear hb1
  by_cases h1 : F < 0
  · have d1 := decide_eq_true h1
    clear hb h1
    go_wp2_with fail
    go_ret3
    exact ⟨rfl, HB.out⟩
  · have d1 := decide_eq_false h1
    by_cases h2 : 100000 < F
    · have d2 := decide_eq_true h2
      clear hb h1 h2
      go_wp2_with fail
      go_ret3
      exact ⟨rfl, HB.out⟩
    · have d2 := decide_eq_false h2
      have h3 : zs.any cbad = true := by rcases hb with h | h | h <;> first | exact h | omega
      rw [h3] at HCC
      clear hb h1 h2 h3
      go_wp2_with fail
      refine HCC.out.mono ?_
      rintro e2 w2 ⟨rfl, rfl⟩
      go_wp2_with fail
      go_ret3
      exact ⟨rfl, HB.out⟩

theorem inR_of {zs : List Int} (hl : zs.length = 4) (h : zs.any cbad = false) : InR zs := fun i hi => by
  rw [List.any_eq_false] at h
  have := h (zs.getD i 0) (int_mem (by omega))
  unfold cbad at this
  rw [decide_eq_true_iff] at this
  omega

/-- What Run hands back. -/
def RunP (o : List Int × Nat × Nat × Int) (e : Ending) (w' : World) : Prop := ∃ a n' c', e = .returned (.tuple #[.slice a n' c', .int .i64 (o.2.1 : Nat), errV o.2.2.2]) ∧ Ints.Is w' a n' o.1
set_option maxHeartbeats 8000000 in
set_option maxRecDepth 1000000 in
theorem Run_ok (sa : Option Addr) (m c : Nat) (f : Nat → Nat → Int) (ca : Option Addr) (cc : Nat) (zs : List Int) (F : Nat) (w : World) (hF : Mem.Rows w sa m 4 (fun i j => .int .i64 (f i j))) (hok : CodeOk f m) (hZ : Ints.Is w ca 4 zs) (hb : ¬ RBad F zs) :
    Calls Tryz.prog 9 #[.slice sa m c, .slice ca 4 cc, .int .i64 F] w fun e w' => RunP (runM f F zs 0 0) e w' ∧ Below w.heap.size w w' := by
  have hm12 := hok.2.1
  have hm1 := hok.1
  have hc := check_any sa m c f w (by omega) hF
  rw [codeF_ok hok, errV_zero rfl] at hc
  have HC := Lib.hid hc
  have HZ := Lib.hid hZ
  have HF := Lib.hid hF
  have HOK := Lib.hid hok.2.2
  have hF0 : ¬ (F : Int) < 0 := fun h => hb (.inl h)
  have hF1 : ¬ 100000 < (F : Int) := fun h => hb (.inr (.inl h))
  have hz : zs.any cbad = false := by
    cases h : zs.any cbad
    · rfl
    · exact absurd (.inr (.inr h)) hb
  have hR := inR_of hZ.len hz
  have HIR := Lib.hid hR
  have hzl := hZ.len
  have d1 := decide_eq_false hF0
  have d2 := decide_eq_false hF1
  have HF1 := Lib.hid hF1
  obtain ⟨o, ho⟩ : ∃ o, o = runM f F zs 0 0 := ⟨_, rfl⟩
  rw [← ho]
  have HO := Lib.hid ho
  obtain ⟨gb, go, hca, _⟩ := hZ.cells 0 (by omega)
  subst hca
  clear hc hF hok hZ hb ho hF0 hF1 hR
  go_enter Tryz.func9, Tryz.ntmps9
  go_wp2_with fail
  refine HC.out.mono ?_
  rintro e1 w1 ⟨rfl, hb1⟩
  have HB := Lib.hid hb1
  have HCC := Lib.hid (ccontains_any (some ⟨gb, go, none⟩) 4 cc zs w1 (HZ.out.keep hb1))
  rw [hz] at HCC
  clear hb1
  go_wp2_with fail
  refine HCC.out.mono ?_
  rintro e2 w2 ⟨rfl, rfl⟩
  have hcl := Tryz.slices_Clone_int gb go 4 cc zs w1 (by omega) (by omega) (fun j hj => by
    obtain ⟨b', o', e', _, h'⟩ := (HZ.out.keep HB.out).cells j (by omega)
    cases e'
    exact h')
  have HCL := Lib.hid hcl
  clear hcl HCC HC
  go_wp2_with fail
  refine HCL.out.mono ?_
  rintro e3 w3 ⟨v3, rfl, hown, _, hb3⟩
  have HB := Lib.hid (HB.out.trans (hb3.mono HB.out.size))
  rw [List.take_of_length_le (by omega)] at hown
  obtain ⟨g, gc, rfl, hgB, hcr⟩ := CRow.of hown hzl
  have HR := Lib.hid hcr
  have hgB2 : w.heap.size ≤ g := Nat.le_trans (by have := ‹Hid (Below w.heap.size w w1)›.out.size; exact this) hgB
  clear hown hb3 HCL hcr hgB d1 d2
  go_wp2_with fail
  go_loopw [11, 12] (fun u v wr => ∃ (at' n : Nat) (cz : List Int), u = .int .i64 at' ∧ v = .int .i64 n ∧ at' < m ∧ n ≤ F ∧ CRow wr g cz ∧ InR cz ∧ o = runM f (F - n) cz at' n ∧ Below w.heap.size w wr) (fun _ v _ => F - (RowKit.intOf v).toNat)
  case atStart => exact ⟨0, 0, zs, rfl, rfl, hm1, Nat.zero_le _, HR.out, HIR.out, HO.out, HB.out⟩
  case round =>
    clear HR HIR HO HB hzl hz
    obtain ⟨k, n, cz, rfl, rfl, hk, hn, hr, hir, ho, hb⟩ := hrel
    have HR := Lib.hid hr
    have HIR := Lib.hid hir
    have HO := Lib.hid ho
    have HB := Lib.hid hb
    have hcl := hr.1
    obtain ⟨b, off, rfl, hbl, hrest⟩ := HF.out k hk
    clear hrest hr hir ho
    have l1 := ins_range ((HF.out).below hb (Nat.le_refl _)) hk
    have hk2 : (k : Int) < (m : Int) := by omega
    have hio : okI m (f k 0) (f k 1) (f k 2) (f k 3) := HOK.out k hk
    have hrb := hb.size
    clear hb
    have G3 : Hid (f k 0 = 3 → ∀ d c n', runM f d c k n' = (c, n', k, 0)) := fun h d c n' => runM_halt h d c n'
    have G6 : Hid (f k 0 ≠ 3 → ∀ c n', runM f 0 c k n' = ([], 0, 0, 6)) := fun h c n' => runM_fuel h c n'
    have G1 : Hid (f k 0 = 1 → cz.getD (f k 1).toNat 0 ≠ 1000000 → 0 < F - n → ∀ n', runM f (F - n) cz k n' = runM f (F - n - 1) (cz.set (f k 1).toNat (cz.getD (f k 1).toNat 0 + 1)) (f k 2).toNat (n' + 1)) := fun h hc hd n' => runM_inc h hc hd n'
    have G2 : Hid (f k 0 = 2 → 0 < cz.getD (f k 1).toNat 0 → 0 < F - n → ∀ n', runM f (F - n) cz k n' = runM f (F - n - 1) (cz.set (f k 1).toNat (cz.getD (f k 1).toNat 0 - 1)) (f k 2).toNat (n' + 1)) := fun h hc hd n' => runM_dec h hc hd n'
    have G5 : Hid (f k 0 = 2 → ¬ 0 < cz.getD (f k 1).toNat 0 → 0 < F - n → ∀ n', runM f (F - n) cz k n' = runM f (F - n - 1) cz (f k 3).toNat (n' + 1)) := fun h hc hd n' => runM_else h hc hd n'
    have G4 : Hid (f k 0 = 1 → cz.getD (f k 1).toNat 0 = 1000000 → 0 < F - n → ∀ n', runM f (F - n) cz k n' = ([], 0, 0, 4)) := fun h hc hd n' => runM_full h hc hd n'
    obtain ⟨x0, hx0⟩ : ∃ x, x = f k 0 := ⟨_, rfl⟩
    obtain ⟨x1, hx1⟩ : ∃ x, x = f k 1 := ⟨_, rfl⟩
    obtain ⟨x2, hx2⟩ : ∃ x, x = f k 2 := ⟨_, rfl⟩
    obtain ⟨x3, hx3⟩ : ∃ x, x = f k 3 := ⟨_, rfl⟩
    rw [← hx0, ← hx1, ← hx2, ← hx3] at hio l1
    rw [← hx0] at G3 G6
    rw [← hx0, ← hx1] at G4
    rw [← hx0, ← hx1, ← hx2] at G1 G2
    rw [← hx0, ← hx1, ← hx3] at G5
    clear hx0 hx1 hx2 hx3
    obtain ⟨a0, a3, t0, tm, e0, em, hops⟩ := okI_any2 hio hk
    obtain ⟨a, rfl⟩ : ∃ a : Nat, x1 = a := ⟨x1.toNat, by omega⟩
    obtain ⟨t, rfl⟩ : ∃ t : Nat, x2 = t := ⟨x2.toNat, by omega⟩
    obtain ⟨e, rfl⟩ : ∃ e : Nat, x3 = e := ⟨x3.toNat, by omega⟩
    simp only [Int.toNat_natCast] at G1 G2 G4 G5
    have HTM : Hid (t < m) := Lib.hid (by omega)
    have HEM : Hid (e < m) := Lib.hid (by omega)
    have ha4 : a < 4 := by omega
    have ha9 : (a : Int) < 4 := by omega
    have cA := HR.out.cell ha4
    have hzr := HIR.out a ha4
    have HCL := Lib.hid hcl
    clear a0 a3 t0 tm e0 em hio hcl
    obtain ⟨z, hz⟩ : ∃ z, z = cz.getD a 0 := ⟨_, rfl⟩
    rw [← hz] at cA hzr G1 G2 G4 G5
    clear hz
    have hrow : Row (wr.alloc (.cells #[.int .i64 x0, .int .i64 (a : Nat), .int .i64 (t : Nat), .int .i64 (e : Nat)] 34)) wr.heap.size 34 [.int .i64 x0, .int .i64 (a : Nat), .int .i64 (t : Nat), .int .i64 (e : Nat)] := row_alloc wr _ _
    have hbn2 : Below wr.heap.size wr (wr.alloc (.cells #[.int .i64 x0, .int .i64 (a : Nat), .int .i64 (t : Nat), .int .i64 (e : Nat)] 34)) := (Below.refl _ _).alloc (Nat.le_refl _) _
    have h7g : wr.heap.size ≠ g := by have := HR.out.lt; omega
    have HB := Lib.hid (HB.out.trans (hbn2.mono HB.out.size))
    have HR := Lib.hid (HR.out.keep hbn2)
    have cA : (wr.alloc (.cells #[.int .i64 x0, .int .i64 (a : Nat), .int .i64 (t : Nat), .int .i64 (e : Nat)] 34)).cell? ⟨g, a, none⟩ = some (.int .i64 z) := (hbn2.cell (p := ⟨g, a, none⟩) (by have := ‹Hid (CRow wr g cz)›.out.lt; exact this)).trans cA
    have HE : Hid (Row (wr.alloc (.cells #[.int .i64 x0, .int .i64 (a : Nat), .int .i64 (t : Nat), .int .i64 (e : Nat)] 34)) wr.heap.size 34 [.int .i64 x0, .int .i64 (a : Nat), .int .i64 (t : Nat), .int .i64 (e : Nat)]) := Lib.hid hrow
    go_upto_region 14 with (refine wpList_load_mid rfl 34 _ rfl b (off + k * 4) rfl _ _ l1 Tryz.underlying34 rfl infoIns ?_; clear l1)
    obtain ⟨b7, hb7⟩ : ∃ b7, b7 = wr.heap.size := ⟨_, rfl⟩
    rw [← hb7] at HE h7g ⊢
    clear hb7 hbn2 hrow hrb
    generalize wr.alloc (.cells #[.int .i64 x0, .int .i64 (a : Nat), .int .i64 (t : Nat), .int .i64 (e : Nat)] 34) = w4 at *
    have c0 := HE.out.cell 0
    have c1 := HE.out.cell 1
    have c2 := HE.out.cell 2
    have c3 := HE.out.cell 3
    dsimp only [List.getElem?_cons_succ, List.getElem?_cons_zero] at c0 c1 c2 c3
    have fA := HR.out.frozen a
    have HNL := Lib.hid hn
    have H1 := Lib.hid HF1.out
    have hF5 : F ≤ 100000 := by have := HF1.out; omega
    by_cases h3 : x0 = 3
    · subst h3
      clear hops
      go_wp2_with fail
      go_ret3
      rw [HO.out, G3.out (by first | rfl | trivial)]
      first | exact ⟨⟨_, _, _, rfl, HR.out.is⟩, HB.out⟩ | exact ⟨HR.out.is, HB.out⟩
    have q3 : (x0 == 3) = false := beq_eq_false_iff_ne.2 h3
    have H3 := Lib.hid h3
    by_cases hnF : n = F
    · subst hnF
      clear hops h3
      go_wp2_with fail
      go_ret3
      rw [HO.out, Nat.sub_self, G6.out H3.out]
      first | exact ⟨⟨_, _, _, rfl, Ints.Is.nil _⟩, HB.out⟩ | exact ⟨Ints.Is.nil _, HB.out⟩
    have dk : ((n : Int) == (F : Int)) = false := beq_eq_false_iff_ne.2 (by omega)
    have dk2 := @decide_eq_false (n = F) _ hnF
    have HNF : Hid (n < F) := Lib.hid (by omega)
    by_cases h1 : x0 = 1
    · subst h1
      clear hops h3 q3 hnF
      by_cases hz6 : z = 1000000
      · subst hz6
        go_wp2_with fail
        go_ret3
        rw [HO.out, G4.out (by first | rfl | trivial) (by first | rfl | trivial) (by have := HNF.out; omega)]
        first | exact ⟨⟨_, _, _, rfl, Ints.Is.nil _⟩, HB.out⟩ | exact ⟨Ints.Is.nil _, HB.out⟩
      · have qz : (z == 1000000) = false := beq_eq_false_iff_ne.2 hz6
        have HGO := Lib.hid (G1.out rfl hz6 (by have := HNF.out; omega) n)
        have HIR2 := Lib.hid (HIR.out.set HCL.out (a := a) (z := z + 1) (by omega))
        clear hz6
        have hst := HR.out.set a (z + 1)
        have hon := only_setCell w4 g a (.int .i64 (z + 1))
        have HES := Lib.hid (HE.out.other hon h7g)
        have HBS := Lib.hid (HB.out.setCell (p := ⟨g, a, none⟩) hgB2 (.int .i64 (z + 1)))
        have HRS := Lib.hid hst
        clear hst hon
        go_upto_region 22 with fail
        generalize w4.setCell ⟨g, a, none⟩ (.int .i64 (z + 1)) = w5 at *
        have e2 := HES.out.cell 2
        dsimp only [List.getElem?_cons_succ, List.getElem?_cons_zero] at e2
        go_wp2_with fail
        go_roundw
        case rel => exact ⟨t, n + 1, _, rfl, by go_num, by have := HTM.out; omega, by have := HNF.out; omega, HRS.out, HIR2.out, by rw [HO.out, HGO.out, Nat.sub_sub], HBS.out⟩
        case measure => have := HNF.out; simp [RowKit.intOf]; omega
    have q1 : (x0 == 1) = false := beq_eq_false_iff_ne.2 h1
    have h2 : x0 = 2 := by omega
    subst h2
    clear hops h3 q3 h1 q1 hnF
    by_cases hz0 : 0 < z
    · have qz := decide_eq_true hz0
      have HGO := Lib.hid (G2.out rfl hz0 (by have := HNF.out; omega) n)
      have HIR2 := Lib.hid (HIR.out.set HCL.out (a := a) (z := z - 1) (by omega))
      clear hz0
      have hst := HR.out.set a (z - 1)
      have hon := only_setCell w4 g a (.int .i64 (z - 1))
      have HES := Lib.hid (HE.out.other hon h7g)
      have HBS := Lib.hid (HB.out.setCell (p := ⟨g, a, none⟩) hgB2 (.int .i64 (z - 1)))
      have HRS := Lib.hid hst
      clear hst hon
      go_upto_region 25 with fail
      generalize w4.setCell ⟨g, a, none⟩ (.int .i64 (z - 1)) = w5 at *
      have e2 := HES.out.cell 2
      dsimp only [List.getElem?_cons_succ, List.getElem?_cons_zero] at e2
      go_wp2_with fail
      go_roundw
      case rel => exact ⟨t, n + 1, _, rfl, by go_num, by have := HTM.out; omega, by have := HNF.out; omega, HRS.out, HIR2.out, by rw [HO.out, HGO.out, Nat.sub_sub], HBS.out⟩
      case measure => have := HNF.out; simp [RowKit.intOf]; omega
    · have qz := decide_eq_false hz0
      have HGO := Lib.hid (G5.out rfl hz0 (by have := HNF.out; omega) n)
      clear hz0
      go_wp2_with fail
      go_roundw
      case rel => exact ⟨e, n + 1, _, rfl, by go_num, by have := HEM.out; omega, by have := HNF.out; omega, HR.out, HIR.out, by rw [HO.out, HGO.out, Nat.sub_sub], HB.out⟩
      case measure => have := HNF.out; simp [RowKit.intOf]; omega
end Cr
end Go.Proofs.YtfhhnajnanlmgaaGreatDoor
