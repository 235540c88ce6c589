/- THE LAW CounterMeans: its walk, out of its callees' contracts. -/
import Derived.Test.YtfhhnajnanlmgaaGreatDoorCmN
import Derived.Test.YtfhhnajnanlmgaaGreatDoorCrV
import Derived.Test.YtfhhnajnanlmgaaGreatDoorCrG
import Derived.Test.YtfhhnajnanlmgaaGreatDoorCrT
import Derived.Test.YtfhhnajnanlmgaaGreatDoorCpC
import Derived.Test.YtfhhnajnanlmgaaGreatDoorLawCounterReads
namespace Go.Proofs.YtfhhnajnanlmgaaGreatDoor
set_option linter.unusedSimpArgs false
set_option linter.unusedVariables false
open Go.RowKit
namespace Cm
open Tld Mem Cr Cp Rd

/-! ### the closed fact -/
def fL : List Int := [2, 0, 1, 2, 1, 1, 0, 0, 3, 0, 0, 0]
def f0 (i j : Nat) : Int := fL.getD (i * 4 + j) 0
theorem ok0 : CodeOk f0 3 := ⟨by decide, by decide, by decide⟩
theorem bad0 : ¬ RBad 100 [2, 3, 0, 0] := by unfold RBad; decide
theorem run0 : runM f0 100 [2, 3, 0, 0] 0 0 = ([0, 5, 0, 0], 5, 2, 0) := by decide +kernel
def c0 : List Value := fL.map (Value.int .i64)
def n0 : List Value := [.int .i64 2, .int .i64 3, .int .i64 0, .int .i64 0]
theorem rows0 {w : World} {b : Nat} (h : Row w b 34 c0) : Mem.Rows w (some ⟨b, 0, none⟩) 3 4 (fun i j => .int .i64 (f0 i j)) := fun i hi => by
  refine ⟨b, 0, rfl, h.lt, fun j hj => ?_⟩
  rw [h.cell, Nat.zero_add]
  have : ∀ i, i < 3 → ∀ j, j < 4 → fL[i * 4 + j]? = some (f0 i j) := by decide
  show (fL.map (Value.int .i64))[i * 4 + j]? = _
  rw [List.getElem?_map, this i hi j hj]
  rfl
theorem ints0 {w : World} {b : Nat} (h : Row w b 3 n0) : Ints.Is w (some ⟨b, 0, none⟩) 4 [2, 3, 0, 0] :=
  ⟨rfl, fun i hi => ⟨b, 0, rfl, h.lt, by
    rw [h.cell, Nat.zero_add]
    match i, hi with
    | 0, _ => rfl
    | 1, _ => rfl
    | 2, _ => rfl
    | 3, _ => rfl⟩, by unfold maxLen; omega⟩
theorem two_new (w : World) (T U : TypeId) (c1 c2 : List Value) : Row ((w.alloc (.cells c1.toArray T)).alloc (.cells c2.toArray U)) w.heap.size T c1 ∧ Row ((w.alloc (.cells c1.toArray T)).alloc (.cells c2.toArray U)) (w.heap.size + 1) U c2 ∧ Below w.heap.size w ((w.alloc (.cells c1.toArray T)).alloc (.cells c2.toArray U)) := by
  refine ⟨?_, ?_, ((Below.refl _ _).alloc (Nat.le_refl _) _).alloc (by simp) _⟩
  · exact (row_alloc w T c1).keep ((Below.refl _ _).alloc (Nat.le_refl _) (.cells c2.toArray U)) (by simp)
  · have := row_alloc (w.alloc (.cells c1.toArray T)) U c2
    rwa [World.size_alloc] at this

/-! ### what the calls give -/
variable {f : Nat → Nat → Int} {m : Nat}
theorem same_code (hok : CodeOk f m) : codeF (insF ((List.range m).map (inOf f))) ((List.range m).map (inOf f)).length = 0 := by
  have hl : ((List.range m).map (inOf f)).length = m := by simp
  rw [hl]
  refine codeF_ok ⟨hok.1, hok.2.1, fun i hi => ?_⟩
  unfold okAt
  rw [ins_get hi (by omega), ins_get hi (by omega), ins_get hi (by omega), ins_get hi (by omega)]
  exact hok.2.2 i hi
/-- A text that was printed is read. -/
theorem Parse_text (hok : CodeOk f m) (w : World) (hm : ∃ m, w.cell? ⟨4, 0, none⟩ = some (.int .i64 m)) :
    Calls Tryz.prog 5 #[.string ⟨(textT f m).toArray⟩] w fun e w' => (∃ a c, e = .returned (.tuple #[.slice a m c, .int .i64 0, .nilIface]) ∧ Mem.Rows w' a m 4 (fun i j => .int .i64 (insF ((List.range m).map (inOf f)) i j))) ∧ Below w.heap.size w w' := by
  have hl : ((List.range m).map (inOf f)).length = m := by simp
  have hs : (ByteArray.mk (textT f m).toArray).size ≤ 1048576 := by
    have h1 := textT_len f m
    have h2 := hok.2.1
    show (textT f m).toArray.size ≤ _
    rw [List.size_toArray]
    omega
  refine (Parse_any ⟨(textT f m).toArray⟩ w hs hm).mono ?_
  intro e w' h
  have e1 : (ByteArray.mk (textT f m).toArray).data.toList = textT f m := rfl
  rw [e1, read_text hok] at h
  obtain ⟨⟨h1, _⟩, hb⟩ := h
  obtain ⟨v, rfl, how⟩ := h1 (same_code hok)
  rw [hl] at how
  obtain ⟨a, c, rfl⟩ := own_slice how
  exact ⟨⟨a, c, rfl, rows_ins how hl⟩, hb⟩
/-- What a run hands back. -/
theorem Run_all (sa : Option Addr) (c : Nat) (ca : Option Addr) (cn cc : Nat) (zs : List Int) (F : Int) (w : World) (hok : CodeOk f m) (hF : ∀ w2, Below w.heap.size w w2 → Mem.Rows w2 sa m 4 (fun i j => .int .i64 (f i j))) (hZ : Ints.Is w ca cn zs) :
    ∃ o : List Int × Nat × Nat × Int, (o.2.2.2 = 0 → cn = 4 ∧ ¬ RBad F zs ∧ o = runM f F.toNat zs 0 0) ∧ (∀ w2, Below w.heap.size w w2 → Calls Tryz.prog 9 #[.slice sa m c, .slice ca cn cc, .int .i64 F] w2 fun e w' => RunP o e w' ∧ Below w2.heap.size w2 w') := by
  have hle := hZ.le
  unfold maxLen at hle
  by_cases h4 : cn = 4
  · subst h4
    by_cases hb : RBad F zs
    · refine ⟨([], 0, 0, 1), fun h => absurd h (by decide), fun w2 hb2 => ?_⟩
      refine (Run_range sa m c f ca cc zs F w2 (hF w2 hb2) hok (hZ.keep hb2) hb).mono ?_
      rintro e w' ⟨rfl, h⟩
      exact ⟨⟨_, _, _, rfl, Ints.Is.nil _⟩, h⟩
    · obtain ⟨F, rfl⟩ : ∃ F' : Nat, F = F' := ⟨F.toNat, by unfold RBad at hb; omega⟩
      exact ⟨runM f F zs 0 0, fun _ => ⟨rfl, hb, by rw [Int.toNat_natCast]⟩, fun w2 hb2 => Run_ok sa m c f ca cc zs F w2 (hF w2 hb2) hok (hZ.keep hb2) hb⟩
  · refine ⟨([], 0, 0, 3), fun h => absurd h (by decide), fun w2 hb2 => ?_⟩
    refine (Run_len sa m c f ca cn cc F w2 (hF w2 hb2) hok h4 hle).mono ?_
    rintro e w' ⟨rfl, h⟩
    exact ⟨⟨_, _, _, rfl, Ints.Is.nil _⟩, h⟩
theorem good_all (hok : CodeOk f m) : ¬ BadIn (fz (allF f m)) (num f m + m) ∧ Cp.Good (fz (allF f m)) (num f m + m) := by
  have h : ∀ i, i < num f m + m → ∀ j, j < 2 → 1 ≤ fz (allF f m) i j ∧ fz (allF f m) i j ≤ 11449 := fun i hi j hj => all_get hok hi hj
  refine ⟨?_, fun i hi => ?_⟩
  · rintro ⟨i, hi, hb⟩
    have h0 := h i hi 0 (by omega)
    have h1 := h i hi 1 (by omega)
    have := of_decide_eq_true hb
    omega
  · have h0 := h i hi 0 (by omega)
    have h1 := h i hi 1 (by omega)
    omega
theorem prim_P {i : Nat} (hm : m ≤ 12) (hi : i < 4 + 2 * m) : (prim (4 + 2 * m)).getD i 0 = (P i : Int) := pz_P hm hi
theorem cell_prim {w : World} {a : Option Addr} {i : Nat} {z : Nat} (hm : m ≤ 12) (h : Ints.Is w a (4 + 2 * m) (prim (4 + 2 * m))) (hi : i < 4 + 2 * m) (hz : z = P i) : ∃ b off, a = some ⟨b, off, none⟩ ∧ w.cell? ⟨b, off + i, none⟩ = some (.int .i64 (z : Nat)) := by
  obtain ⟨b, off, e, hl, hc⟩ := h.cells i hi
  dsimp only at hc
  rw [prim_P hm hi] at hc
  exact ⟨b, off, e, by rw [hz]; exact hc⟩
theorem is_own {w : World} {B : Nat} {v : Value} {n : Nat} {zs : List Int} (h : w.ownsRow B 3 1 v n (zs.map (Value.int .i64))) (hl : zs.length = n) (hn : 0 < n) : ∃ a c, v = .slice (some a) n c ∧ Ints.Is w (some a) n zs := by
  rcases h.2 with ⟨hv, h0⟩ | ⟨g, cap, cur, hv, hB, hg, hnc, hcm, hcs, ht⟩
  · omega
  · refine ⟨_, _, hv, hl, fun i hi => ⟨g, 0, rfl, (Array.getElem?_eq_some_iff.1 hg).1, ?_⟩, by omega⟩
    have h1 : w.cell? ⟨g, 0 + i, none⟩ = cur[i]? := by simp [World.cell?, hg]
    rw [h1]
    have h3 : (cur.toList.take (n * 1))[i]? = (zs.map (Value.int .i64))[i]? := by rw [ht]
    rw [List.getElem?_take_of_lt (by omega), Array.getElem?_toList, List.getElem?_map, List.getElem?_eq_getElem (by omega)] at h3
    dsimp only
    rw [h3, List.getD_eq_getElem?_getD, List.getElem?_eq_getElem (by omega)]
    rfl
set_option maxHeartbeats 8000000 in
set_option maxRecDepth 1000000 in
theorem counterMeans_any (sa : Option Addr) (m c : Nat) (f : Nat → Nat → Int) (ca : Option Addr) (cn cc : Nat) (zs : List Int) (F : Int) (sn : Addr) (w : World) (hm : m ≤ 9223372036854775807) (hF : Mem.Rows w sa m 4 (fun i j => .int .i64 (f i j))) (hZ : Ints.Is w ca cn zs) (hS : Sent w sn) (hM : ∃ m, w.cell? ⟨4, 0, none⟩ = some (.int .i64 m)) (hL : Tld.Laid w) :
    Calls Tryz.prog 4 #[.slice sa m c, .slice ca cn cc, .int .i64 F] w fun e w' => e = .returned (.bool true) ∧ Below w.heap.size w w' := by
  have HF : Hid (∀ w2, Below w.heap.size w w2 → Mem.Rows w2 sa m 4 (fun i j => .int .i64 (f i j))) := Lib.hid (fun w2 h => hF.below h (Nat.le_refl _))
  have HZ := Lib.hid hZ
  have HS := Lib.hid hS
  have HL := Lib.hid hL
  have HM : Hid (∀ w2, Below w.heap.size w w2 → ∃ m, w2.cell? ⟨4, 0, none⟩ = some (.int .i64 m)) := Lib.hid (fun w2 h => by
    obtain ⟨x, hx⟩ := hM
    exact ⟨x, by rw [h.cell (p := ⟨4, 0, none⟩) (Mem.lt_of_cell hx)]; exact hx⟩)
  have HMM := Lib.hid hm
  clear hF hZ hS hL hM hm
  have HK0 : Hid (∀ w2 b1 b2, Row w2 b1 34 c0 → Row w2 b2 3 n0 → Calls Tryz.prog 9 #[.slice (some ⟨b1, 0, none⟩) 3 3, .slice (some ⟨b2, 0, none⟩) 4 4, .int .i64 (100 : Nat)] w2 fun e w' => RunP ([0, 5, 0, 0], 5, 2, 0) e w' ∧ Below w2.heap.size w2 w') := Lib.hid (fun w2 b1 b2 h1 h2 => by
    rw [← run0]
    exact Run_ok (some ⟨b1, 0, none⟩) 3 3 f0 (some ⟨b2, 0, none⟩) 4 [2, 3, 0, 0] 100 _ (rows0 h1) ok0 (ints0 h2) bad0)
  go_enter Tryz.func4, Tryz.ntmps4
  go_wp2_with fail
  obtain ⟨hr1, hr2, hb0⟩ := two_new w 34 3 c0 n0
  have hr1' : Row ((w.alloc (.cells #[.int .i64 2, .int .i64 0, .int .i64 1, .int .i64 2, .int .i64 1, .int .i64 1, .int .i64 0, .int .i64 0, .int .i64 3, .int .i64 0, .int .i64 0, .int .i64 0] 34)).alloc (.cells #[.int .i64 2, .int .i64 3, .int .i64 0, .int .i64 0] 3)) w.heap.size 34 c0 := hr1
  have hr2' : Row ((w.alloc (.cells #[.int .i64 2, .int .i64 0, .int .i64 1, .int .i64 2, .int .i64 1, .int .i64 1, .int .i64 0, .int .i64 0, .int .i64 3, .int .i64 0, .int .i64 0, .int .i64 0] 34)).alloc (.cells #[.int .i64 2, .int .i64 3, .int .i64 0, .int .i64 0] 3)) (w.heap.size + 1) 3 n0 := hr2
  have HB : Hid (Below w.heap.size w ((w.alloc (.cells #[.int .i64 2, .int .i64 0, .int .i64 1, .int .i64 2, .int .i64 1, .int .i64 1, .int .i64 0, .int .i64 0, .int .i64 3, .int .i64 0, .int .i64 0, .int .i64 0] 34)).alloc (.cells #[.int .i64 2, .int .i64 3, .int .i64 0, .int .i64 0] 3))) := hb0
  have HR1 := Lib.hid hr1'
  have HR2 := Lib.hid hr2'
  clear hr1 hr2 hb0 hr1' hr2'
  generalize (w.alloc (.cells #[.int .i64 2, .int .i64 0, .int .i64 1, .int .i64 2, .int .i64 1, .int .i64 1, .int .i64 0, .int .i64 0, .int .i64 3, .int .i64 0, .int .i64 0, .int .i64 0] 34)).alloc (.cells #[.int .i64 2, .int .i64 3, .int .i64 0, .int .i64 0] 3) = w0 at *
  refine (HK0.out w0 _ _ HR1.out HR2.out).mono ?_
  rintro e1 w1 ⟨⟨a0, n0', k0', rfl, hi0⟩, hb1⟩
  have HB := Lib.hid (HB.out.trans (hb1.mono HB.out.size))
  clear HK0 HR1 HR2 hb1
  obtain rfl : n0' = 4 := hi0.len.symm
  obtain ⟨g0, of0, rfl, hg0, hc0⟩ := hi0.cells 1 (by omega)
  dsimp only [List.getD_cons_succ, List.getD_cons_zero] at hc0
  dsimp only
  rw [errV_zero rfl]
  clear hi0 hg0
  by_cases hcode : codeF f m = 0
  · --{ok
    have hok := codeF_zero hcode
    clear hcode
    have hm12 := hok.2.1
    have hm1 := hok.1
    have HOK := Lib.hid hok
    obtain ⟨o, ho, hrun⟩ := Run_all (m := m) sa c ca cn cc zs F w hok HF.out HZ.out
    have K1 := Lib.hid (fun w2 h => Print_ok sa m c f w2 (HF.out w2 h) hok)
    have K2 := Lib.hid (fun w2 h => Parse_text hok w2 (HM.out w2 h))
    have KC : Hid (∀ w2 b d, Below w.heap.size w w2 → Mem.Rows w2 b m 4 (fun i j => .int .i64 (insF ((List.range m).map (inOf f)) i j)) → Calls Tryz.prog 8 #[.slice sa m c, .slice b m d] w2 fun e w' => e = .returned (.bool true) ∧ Below w2.heap.size w2 w') := Lib.hid (fun w2 b d hb hr => by
      refine csame_any sa b m c d (insF ((List.range m).map (inOf f))) w2 HMM.out (fun i hi => ?_) hr
      obtain ⟨x, y, e1, e2, e3⟩ := HF.out w2 hb i hi
      exact ⟨x, y, e1, e2, fun j hj => by
        dsimp only
        rw [ins_get hi hj]
        exact e3 j hj⟩)
    have K3 := Lib.hid hrun
    have HO := Lib.hid ho
    have HM12 := Lib.hid hm12
    have HM1 := Lib.hid hm1
    clear hok hrun ho hm12 hm1 HM
    generalize hz9 : textT f m = tx at *
    clear hz9
    go_wp2_with fail
    refine (K1.out w1 HB.out).mono ?_
    rintro e2 w2 ⟨rfl, hb2⟩
    have HB := Lib.hid (HB.out.trans (hb2.mono HB.out.size))
    clear hb2
    clear hc0 K1
    go_wp2_with fail
    refine (K2.out w2 HB.out).mono ?_
    rintro e3 w3 ⟨⟨b1, d1, rfl, hr2⟩, hb3⟩
    have HB := Lib.hid (HB.out.trans (hb3.mono HB.out.size))
    clear hb3
    have HR2 := Lib.hid hr2
    clear hr2 K2
    go_wp2_with fail
    refine (KC.out w3 b1 d1 HB.out HR2.out).mono ?_
    rintro e4 w4 ⟨rfl, hb4⟩
    have HB := Lib.hid (HB.out.trans (hb4.mono HB.out.size))
    clear hb4
    clear HR2 KC
    go_wp2_with fail
    refine (K3.out w4 HB.out).mono ?_
    rintro e5 w5 ⟨⟨r1, r2, r3, rfl, hi1⟩, hb5⟩
    have HB := Lib.hid (HB.out.trans (hb5.mono HB.out.size))
    clear hb5
    have HI1 := Lib.hid hi1
    clear hi1
    obtain ⟨oc, on, oa, oe⟩ := o
    dsimp only at HO HI1
    by_cases hoe : oe = 0
    · --{run
      obtain ⟨h4, hnb, horun⟩ := HO.out hoe
      subst hoe
      subst h4
      rw [errV_zero rfl]
      by_cases hn5 : 50000 < on
      · have hn52 : (50000 : Int) < (on : Int) := by omega
        go_wp2_with fail
        go_ret
        exact ⟨rfl, HB.out⟩
      have hn52 : ¬ (50000 : Int) < (on : Int) := by omega
      have K4 := Lib.hid (fun w2 h => Play_any sa m c f ca cc zs F w2 (HF.out w2 h) HOK.out (HZ.out.keep h))
      have K5 := Lib.hid (fun w2 => Primes_any (4 + 2 * m) w2 (by have := HM12.out; omega))
      have HRB := Lib.hid hnb
      have HOR := Lib.hid horun
      have HN5 := Lib.hid hn5
      clear hnb horun hn5
      go_wp2_with fail
      refine (K4.out w5 HB.out).mono ?_
      rintro e6 w6 ⟨hq1, hb6⟩
      have HI1 := Lib.hid (HI1.out.keep hb6)
      have HB := Lib.hid (HB.out.trans (hb6.mono HB.out.size))
      clear hb6
      obtain ⟨p1, p2, p3, rfl, hi2⟩ := hq1.2 HRB.out
      rw [← HOR.out] at hi2 ⊢
      dsimp only
      clear hq1 hi2 K4
      have hw2 : wrap64 (2 * (m : Int)) = ((2 * m : Nat) : Int) := by have := HM12.out; unfold wrap64; omega
      obtain ⟨m2, hm2⟩ : ∃ m2, m2 = 2 * m := ⟨_, rfl⟩
      rw [← hm2] at hw2
      obtain ⟨m4, hm4⟩ : ∃ m4, m4 = 4 + 2 * m := ⟨_, rfl⟩
      have hw4 : wrap64 (4 + (m2 : Int)) = (m4 : Int) := by have := HM12.out; rw [hm4, hm2]; unfold wrap64; omega
      rw [← hm4] at K5
      have HM4 := Lib.hid hm4
      clear hm2 hm4
      go_wp2_with fail
      refine (K5.out w6).mono ?_
      rintro e7 w7 ⟨⟨v1, rfl, ho1⟩, hb7⟩
      have HI1 := Lib.hid (HI1.out.keep hb7)
      have HB := Lib.hid (HB.out.trans (hb7.mono HB.out.size))
      clear hb7
      obtain ⟨pa, pc, rfl, hpi⟩ := is_own ho1 (by rw [prim_len (by have := HM4.out; have := HM12.out; omega)]) (by have := HM4.out; omega)
      have hpi2 : Ints.Is w7 (some pa) (4 + 2 * m) (prim (4 + 2 * m)) := by rw [← HM4.out]; exact hpi
      obtain ⟨q, hq⟩ : ∃ q, q = P 4 := ⟨_, rfl⟩
      obtain ⟨pb, po, hpa, hpc⟩ := cell_prim (i := 4) (z := q) HM12.out hpi2 (by have := HM1.out; omega) hq
      cases hpa
      have h4m : (4 : Int) < (m4 : Int) := by have := HM4.out; have := HM1.out; omega
      have hok := HOK.out
      have hinr : InR zs := inR_of (by rw [HZ.out.len]) (Bool.eq_false_iff.2 (fun h => HRB.out (.inr (.inr h))))
      have hf0 : 0 ≤ F ∧ F ≤ 100000 := by
        have := HRB.out
        unfold RBad at this
        omega
      have hq107 : q ≤ 107 := by rw [hq]; decide
      have K6 := Lib.hid (fun w2 h => number_any ca cc zs q w2 (HZ.out.keep h) hinr hq107)
      have HP := Lib.hid hpi
      have HQ := Lib.hid hq
      have HINR := Lib.hid hinr
      clear hok hinr hf0 hq107 ho1 hpi hpi2 hq
      go_wp2_with fail
      refine (K6.out w7 HB.out).mono ?_
      rintro e8 w8 ⟨rfl, hb8⟩
      have HI1 := Lib.hid (HI1.out.keep hb8)
      have HP := Lib.hid (HP.out.keep hb8)
      have HB := Lib.hid (HB.out.trans (hb8.mono HB.out.size))
      clear hb8
      clear hpc K6
      obtain ⟨x, hx⟩ : ∃ x, x = numN zs q := ⟨_, rfl⟩
      rw [← hx]
      by_cases hx0 : x = 0
      · subst hx0
        go_wp2_with fail
        go_ret
        exact ⟨rfl, HB.out⟩
      have hx1 : ((x : Int) == 0) = false := beq_eq_false_iff_ne.2 (by omega)
      have hx2 : ¬ (x : Int) = 0 := by omega
      have hxM : x = Mz zs * P 4 ∧ Mz zs * P 4 ≤ 4611686018427387904 := by
        rw [HQ.out] at hx
        unfold numN at hx
        by_cases h : Mz zs * P 4 ≤ 4611686018427387904
        · rw [if_pos h] at hx
          exact ⟨hx, h⟩
        · rw [if_neg h] at hx
          exact absurd hx hx0
      obtain ⟨j, hj, ha1, ha2, ha3, hpl⟩ := means HOK.out F.toNat zs 0 0 (by rw [HZ.out.len]) HINR.out HM1.out HOR.out.symm hxM.2
      obtain rfl : on = j := by omega
      obtain ⟨q2, hq2⟩ : ∃ q2, q2 = P (4 + 2 * oa) := ⟨_, rfl⟩
      have hpl0 := hpl 0
      have hc2 : ((2 * on : Nat) : Int) = 2 * (on : Int) := by push_cast; rfl
      rw [Nat.zero_add, ← hxM.1, ← hq2, hc2] at hpl0
      have HPL := Lib.hid hpl0
      have HX := Lib.hid hxM
      obtain rfl : r2 = 4 := by rw [← HI1.out.len, ha1]
      have HA2 := Lib.hid ha2
      have hq107 : q2 ≤ 107 := by rw [hq2]; exact P_le _ (by have := HM12.out; omega)
      have hwa : wrap64 (2 * (oa : Int)) = ((2 * oa : Nat) : Int) := by have := HM12.out; unfold wrap64; omega
      obtain ⟨m5, hm5⟩ : ∃ m5, m5 = 2 * oa := ⟨_, rfl⟩
      obtain ⟨m6, hm6⟩ : ∃ m6, m6 = 4 + 2 * oa := ⟨_, rfl⟩
      rw [← hm5] at hwa
      have hwb : wrap64 (4 + (m5 : Int)) = (m6 : Int) := by have := HM12.out; rw [hm5, hm6]; unfold wrap64; omega
      have hlt6 : (m6 : Int) < (m4 : Int) := by have := HM4.out; omega
      have hpi2 : Ints.Is w8 (some ⟨pb, po, none⟩) (4 + 2 * m) (prim (4 + 2 * m)) := by rw [← HM4.out]; exact HP.out
      obtain ⟨pb2, po2, hpa2, hpc⟩ := cell_prim (i := m6) (z := q2) HM12.out hpi2 (by omega) (by rw [hm6]; exact hq2)
      cases hpa2
      have K7 := Lib.hid (fun w2 h => number_any r1 r3 oc q2 w2 h HA2.out hq107)
      have K8 := Lib.hid (fun w2 h => Fractions_ok sa m c f w2 (HF.out w2 h) HOK.out)
      have HN100 : Hid (2 * on ≤ 100000) := Lib.hid (by have := HN5.out; omega)
      have HC2 := Lib.hid hc2
      have HX1 : Hid (1 ≤ x) := Lib.hid (by omega)
      clear hx0 hx hxM hpl hpl0 hj ha1 ha2 ha3 hq2 hm5 hm6 hpi2 hq107 hc2 HP
      go_wp2_with fail
      refine (K7.out w8 HI1.out).mono ?_
      rintro e9 w9 ⟨rfl, hb9⟩
      have HB := Lib.hid (HB.out.trans (hb9.mono HB.out.size))
      clear hb9
      clear hpc K7 HI1
      go_wp2_with fail
      refine (K8.out w9 HB.out).mono ?_
      rintro e10 w10 ⟨⟨v2, rfl, ho2⟩, hb10⟩
      have HB := Lib.hid (HB.out.trans (hb10.mono HB.out.size))
      clear hb10
      obtain ⟨fa, fc, rfl⟩ := own_slice ho2
      have HRO := Lib.hid (rows_own ho2)
      have HNL : Hid (num f m + m ≤ 1000) := by
        have := num_le f m
        have := HM12.out
        show _ ≤ _
        omega
      obtain ⟨hg1, hg2⟩ := good_all HOK.out
      have K9 : Hid (∀ w2, Below w.heap.size w w2 → Mem.Rows w2 fa (num f m + m) 2 (fun i j => .int .i64 (fz (allF f m) i j)) → Calls Tryz.prog 15 #[.slice fa (num f m + m) fc, .int .i64 x, .int .i64 (2 * (on : Int))] w2 fun e w' => e = .returned (outV (plays (fz (allF f m)) (num f m + m) (2 * on) x 0)) ∧ Below w2.heap.size w2 w') := Lib.hid (fun w2 h hr => by
        rw [← HC2.out]
        exact Play_ok fa (num f m + m) fc (fz (allF f m)) x (2 * on) sn w2 (by have := HNL.out; omega) hr HX1.out (by have := HX.out.1; have := HX.out.2; omega) HN100.out hg1 hg2 (HS.out.keep h))
      have KT : Hid (∀ w2 k, Below w.heap.size w w2 → (k = 0 ∨ k = 4) → Calls Tryz.prog 7 #[errV k, .int .i64 4] w2 fun e w' => e = .returned (.bool (k == 4)) ∧ Below w2.heap.size w2 w') := Lib.hid (fun w2 k h hk => same_any k 4 w2 (HL.out.keep h) (by omega) (by omega))
      clear ho2 hg1 hg2
      generalize num f m + m = NF at *
      generalize hpv : plays (fz (allF f m)) NF (2 * on) x 0 = pv at *
      clear hpv
      go_wp2_with fail
      refine (K9.out w10 HB.out HRO.out).mono ?_
      rintro e11 w11 ⟨rfl, hb11⟩
      have HB := Lib.hid (HB.out.trans (hb11.mono HB.out.size))
      clear hb11
      clear K9 HRO
      rcases HPL.out with rfl | ⟨hle, rfl⟩
      · unfold outV
        dsimp only
        go_wp2_with fail
        refine (KT.out w11 4 HB.out (.inr rfl)).mono ?_
        rintro e20 w20 ⟨rfl, hb20⟩
        have HB := Lib.hid (HB.out.trans (hb20.mono HB.out.size))
        go_wp2_with fail
        go_ret
        exact ⟨rfl, HB.out⟩
      · have hnum : numN oc q2 = Mz oc * q2 := by unfold numN; rw [if_pos hle]
        rw [hnum]
        unfold outV
        dsimp only
        generalize Mz oc * q2 = y at *
        rw [errV_zero rfl]
        have KT0 := KT.out w11 0 HB.out (.inl rfl)
        rw [errV_zero rfl] at KT0
        have KT1 := Lib.hid KT0
        clear hle hnum KT0
        go_wp2_with fail
        refine KT1.out.mono ?_
        rintro e20 w20 ⟨rfl, hb20⟩
        have HB := Lib.hid (HB.out.trans (hb20.mono HB.out.size))
        go_wp2_with fail
        go_ret
        exact ⟨by simp, HB.out⟩
      --}
    · --{err
      rw [errV_some hoe]
      go_wp2_with fail
      go_ret
      exact ⟨rfl, HB.out⟩
    --}
  --}
  · --{bad
    have K1 := Lib.hid (fun w2 h => Print_bad sa m c f w2 HMM.out (HF.out w2 h) hcode)
    rw [errV_some hcode] at K1
    clear hcode
    go_wp2_with fail
    refine (K1.out w1 HB.out).mono ?_
    rintro e2 w2 ⟨rfl, hb2⟩
    have HB := Lib.hid (HB.out.trans (hb2.mono HB.out.size))
    clear hb2
    go_wp2_with fail
    go_ret
    exact ⟨rfl, HB.out⟩
    --}
end Cm
end Go.Proofs.YtfhhnajnanlmgaaGreatDoor
