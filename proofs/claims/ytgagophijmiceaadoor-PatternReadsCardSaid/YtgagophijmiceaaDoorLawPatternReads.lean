/- THE LAW PatternReads: its walk, out of its callees' contracts. -/
import Derived.Test.YtgagophijmiceaaDoorPrAl
import Derived.Test.YtgagophijmiceaaDoorPnLa
namespace Go.Proofs.YtgagophijmiceaaDoor
set_option linter.unusedSimpArgs false
set_option linter.unusedVariables false
open Go.RowKit
namespace Pr
open Tld Mem Bl Pn Pw Rd

theorem rd_ne {w : World} {a : Option Addr} {n : Nat} {zs : List Int} (h : Ints.Is w a n zs) : ∀ b o, a = some ⟨b, o, none⟩ → n ≠ 0 → b ≠ w.heap.size := fun b o e hn => by
  obtain ⟨b', o', e', hl, _⟩ := h.cells 0 (by omega)
  rw [e] at e'; cases e'
  exact Nat.ne_of_lt hl
theorem rd_other3 {w w' : World} {a : Option Addr} {n c : Nat} {zs : List Int} (h : Ints.Is w a n zs) (o : Only c w w') (hne : ∀ b off, a = some ⟨b, off, none⟩ → n ≠ 0 → b ≠ c) : Ints.Is w' a n zs :=
  ⟨h.len, fun i hi => by
    obtain ⟨b, off, e, hlt, hc⟩ := h.cells i hi
    refine ⟨b, off, e, by rw [o.size]; exact hlt, ?_⟩
    rw [← hc]
    unfold World.cell?
    rw [show (⟨b, off + i, none⟩ : Addr).block = b from rfl, o.block b (hne b off e (by omega))], h.le⟩
theorem rd_alike (W1 H1 : Int) (a1 : Option Addr) (n1 c1 : Nat) (a2 : Option Addr) (n2 c2 : Nat) (zs : List Int) (w : World) (h1 : Ints.Is w a1 n1 zs) (h2 : Ints.Is w a2 n2 zs) :
    Calls Tryd.prog 13 #[.agg #[.int .i64 W1, .int .i64 H1, .slice a1 n1 c1], .agg #[.int .i64 W1, .int .i64 H1, .slice a2 n2 c2]] w fun e w' => e = .returned (.bool true) ∧ Below w.heap.size w w' :=
  (alike_any W1 H1 a1 n1 c1 zs W1 H1 a2 n2 c2 zs w h1 h2).mono fun e w' h => ⟨by rw [h.1, decide_eq_true ⟨rfl, rfl, rfl⟩], h.2⟩
set_option maxHeartbeats 16000000 in
set_option maxRecDepth 1000000 in
theorem preads_any (s : ByteArray) (w : World) (hL : Tld.Laid w) (hU : UTabs w) (hM : Marks w) :
    Calls Tryd.prog 4 #[.string s] w fun e w' => e = .returned (.bool true) ∧ Below w.heap.size w w' := by
  obtain ⟨W1, H1, p1, e1, z1, hb1, o1, o2⟩ := runs_two s w
  obtain ⟨W2, H2, p2, e2, z2, hb2, o3, o4⟩ := draw_two s w hU hM
  have T1 := Lib.hid (fun w2 (h : Below w.heap.size w w2) => same_both e1 w2 (hL.keep h) hb1)
  have T2 := Lib.hid (fun w2 (h : Below w.heap.size w w2) => same_both e2 w2 (hL.keep h) hb2)
  generalize errV e1 = f1 at *
  generalize errV e2 = f2 at *
  have K1 := Lib.hid o1
  have K2 := Lib.hid o2
  have K3 := Lib.hid o3
  have K4 := Lib.hid o4
  have A1 := Lib.hid (fun (a1 a2 : Option Addr) (n1 c1 n2 c2 : Nat) w2 h1 h2 => rd_alike W1 H1 a1 n1 c1 a2 n2 c2 z1 w2 h1 h2)
  have A2 := Lib.hid (fun (a1 a2 : Option Addr) (n1 c1 n2 c2 : Nat) w2 h1 h2 => rd_alike W2 H2 a1 n1 c1 a2 n2 c2 z2 w2 h1 h2)
  clear o1 o2 o3 o4 hb1 hb2 hL hU hM
  have HB : Hid (Below w.heap.size w w) := Lib.hid (Below.refl _ _)
  go_enter Tryd.func4, Tryd.ntmps4
  go_wp2_with fail
  refine (K1.out w HB.out).mono ?_
  rintro e1 w1 ⟨⟨a1, n1, c1, rfl, hi1, hx1⟩, hb1⟩
  have HI1 := Lib.hid hi1
  clear hi1 hx1
  have HB := Lib.hid (HB.out.trans (hb1.mono HB.out.size))
  clear hb1
  have HNHA : Hid (w.heap.size ≤ w1.heap.size) := Lib.hid HB.out.size
  have HNHAHI1 := Lib.hid (rd_ne HI1.out)
  go_upto_region 2 with fail
  have hrx : Row (w1.alloc (.cells #[.int .i64 (W1 : Nat), .int .i64 (H1 : Nat), .slice a1 n1 c1] 35)) w1.heap.size 35 (boxP W1 H1 a1 n1 c1) := row_alloc w1 _ _
  have hbx : Below w1.heap.size w1 (w1.alloc (.cells #[.int .i64 (W1 : Nat), .int .i64 (H1 : Nat), .slice a1 n1 c1] 35)) := (Below.refl _ _).alloc (Nat.le_refl _) _
  have HI1 := Lib.hid (HI1.out.keep hbx)
  have HB := Lib.hid (HB.out.trans (hbx.mono HB.out.size))
  clear hbx
  have HA := Lib.hid hrx
  clear hrx
  generalize w1.alloc (.cells #[.int .i64 (W1 : Nat), .int .i64 (H1 : Nat), .slice a1 n1 c1] 35) = w2 at *
  obtain ⟨ab, hab⟩ : ∃ ab, ab = w1.heap.size := ⟨_, rfl⟩
  rw [← hab] at HA HNHA HNHAHI1 ⊢
  clear hab
  go_wp2_with fail
  refine (K2.out w2 HB.out).mono ?_
  rintro e3 w3 ⟨⟨a2, n2, c2, rfl, hi2, hx2⟩, hb3⟩
  have HI2 := Lib.hid hi2
  clear hi2 hx2
  have HA := Lib.hid (HA.out.keep hb3 HA.out.lt)
  have HI1 := Lib.hid (HI1.out.keep hb3)
  have HB := Lib.hid (HB.out.trans (hb3.mono HB.out.size))
  clear hb3
  have HNHC : Hid (ab ≠ w3.heap.size ∧ w.heap.size ≤ w3.heap.size) := Lib.hid ⟨Nat.ne_of_lt HA.out.lt, HB.out.size⟩
  have HNHCHI1 := Lib.hid (rd_ne HI1.out)
  have HNHCHI2 := Lib.hid (rd_ne HI2.out)
  go_upto_region 3 with fail
  have hrx : Row (w3.alloc (.cells #[.int .i64 (W1 : Nat), .int .i64 (H1 : Nat), .slice a2 n2 c2] 35)) w3.heap.size 35 (boxP W1 H1 a2 n2 c2) := row_alloc w3 _ _
  have hbx : Below w3.heap.size w3 (w3.alloc (.cells #[.int .i64 (W1 : Nat), .int .i64 (H1 : Nat), .slice a2 n2 c2] 35)) := (Below.refl _ _).alloc (Nat.le_refl _) _
  have HA := Lib.hid (HA.out.keep hbx HA.out.lt)
  have HI1 := Lib.hid (HI1.out.keep hbx)
  have HI2 := Lib.hid (HI2.out.keep hbx)
  have HB := Lib.hid (HB.out.trans (hbx.mono HB.out.size))
  clear hbx
  have HC := Lib.hid hrx
  clear hrx
  generalize w3.alloc (.cells #[.int .i64 (W1 : Nat), .int .i64 (H1 : Nat), .slice a2 n2 c2] 35) = w4 at *
  obtain ⟨cb, hcb⟩ : ∃ cb, cb = w3.heap.size := ⟨_, rfl⟩
  rw [← hcb] at HC HNHC HNHCHI1 HNHCHI2 ⊢
  clear hcb
  go_wp2_with fail
  refine (T1.out w4 HB.out).mono ?_
  rintro e5 w5 ⟨rfl, hb5⟩
  have HA := Lib.hid (HA.out.keep hb5 HA.out.lt)
  have HC := Lib.hid (HC.out.keep hb5 HC.out.lt)
  have HI1 := Lib.hid (HI1.out.keep hb5)
  have HI2 := Lib.hid (HI2.out.keep hb5)
  have HB := Lib.hid (HB.out.trans (hb5.mono HB.out.size))
  clear hb5
  have l0 := row_range HA.out
  have l1 := row_range HC.out
  go_wp2_with (first | (refine wpList_load_mid rfl 35 _ rfl ab 0 rfl _ _ l0 Tryd.underlying35 rfl infoPat ?_) | (refine wpList_load_mid rfl 35 _ rfl cb 0 rfl _ _ l1 Tryd.underlying35 rfl infoPat ?_))
  refine (A1.out _ _ _ _ _ _ w5 HI1.out HI2.out).mono ?_
  rintro e6 w6 ⟨rfl, hb6⟩
  clear l0 l1
  have HA := Lib.hid (HA.out.keep hb6 HA.out.lt)
  have HC := Lib.hid (HC.out.keep hb6 HC.out.lt)
  have HI1 := Lib.hid (HI1.out.keep hb6)
  have HI2 := Lib.hid (HI2.out.keep hb6)
  have HB := Lib.hid (HB.out.trans (hb6.mono HB.out.size))
  clear hb6
  go_upto_region 7 with fail
  clear HI1 HI2
  go_wp2_with fail
  refine (K3.out w6 HB.out).mono ?_
  rintro e7 w7 ⟨⟨a3, n3, c3, rfl, hi3, hx3⟩, hb7⟩
  have HI3 := Lib.hid hi3
  have HAB3 : Hid (∀ b o, a3 = some ⟨b, o, none⟩ → n3 ≠ 0 → b ≠ ab) := Lib.hid (fun b o e h0 => by have := hx3 b o e h0; have := HA.out.lt; omega)
  have HNHCHI3 : Hid (∀ b o, a3 = some ⟨b, o, none⟩ → n3 ≠ 0 → b ≠ cb) := Lib.hid (fun b o e h0 => by have := hx3 b o e h0; have := HC.out.lt; omega)
  clear hi3 hx3
  have HA := Lib.hid (HA.out.keep hb7 HA.out.lt)
  have HC := Lib.hid (HC.out.keep hb7 HC.out.lt)
  have HB := Lib.hid (HB.out.trans (hb7.mono HB.out.size))
  clear hb7
  have hrs := HA.out
  go_upto_region 8 with (refine Ops.wpList_store_arr rfl 35 _ _ rfl ab rfl 35 _ (boxP W2 H2 a3 n3 c3) rfl hrs rfl infoPat (boxP_one _ _ _ _ _) ?_; intro w8 hrn hon)
  clear hrs
  have HC := Lib.hid (HC.out.other hon (Ne.symm HNHC.out.1))
  have HI3 := Lib.hid (rd_other3 HI3.out hon HAB3.out)
  have HB := Lib.hid (HB.out.trans (hon.below HNHA.out))
  have HA := Lib.hid hrn
  clear hrn hon
  go_wp2_with fail
  refine (K4.out w8 HB.out).mono ?_
  rintro e9 w9 ⟨⟨a4, n4, c4, rfl, hi4, hx4⟩, hb9⟩
  have HI4 := Lib.hid hi4
  have HAB4 : Hid (∀ b o, a4 = some ⟨b, o, none⟩ → n4 ≠ 0 → b ≠ cb) := Lib.hid (fun b o e h0 => by have := hx4 b o e h0; have := HC.out.lt; omega)
  clear hi4 hx4
  have HA := Lib.hid (HA.out.keep hb9 HA.out.lt)
  have HC := Lib.hid (HC.out.keep hb9 HC.out.lt)
  have HI3 := Lib.hid (HI3.out.keep hb9)
  have HB := Lib.hid (HB.out.trans (hb9.mono HB.out.size))
  clear hb9
  have hrs := HC.out
  go_upto_region 9 with (refine Ops.wpList_store_arr rfl 35 _ _ rfl cb rfl 35 _ (boxP W2 H2 a4 n4 c4) rfl hrs rfl infoPat (boxP_one _ _ _ _ _) ?_; intro w10 hrn hon)
  clear hrs
  have HA := Lib.hid (HA.out.other hon HNHC.out.1)
  have HI3 := Lib.hid (rd_other3 HI3.out hon HNHCHI3.out)
  have HI4 := Lib.hid (rd_other3 HI4.out hon HAB4.out)
  have HB := Lib.hid (HB.out.trans (hon.below HNHC.out.2))
  have HC := Lib.hid hrn
  clear hrn hon
  go_wp2_with fail
  refine (T2.out w10 HB.out).mono ?_
  rintro e11 w11 ⟨rfl, hb11⟩
  have HA := Lib.hid (HA.out.keep hb11 HA.out.lt)
  have HC := Lib.hid (HC.out.keep hb11 HC.out.lt)
  have HI3 := Lib.hid (HI3.out.keep hb11)
  have HI4 := Lib.hid (HI4.out.keep hb11)
  have HB := Lib.hid (HB.out.trans (hb11.mono HB.out.size))
  clear hb11
  have l0 := row_range HA.out
  have l1 := row_range HC.out
  go_wp2_with (first | (refine wpList_load_mid rfl 35 _ rfl ab 0 rfl _ _ l0 Tryd.underlying35 rfl infoPat ?_) | (refine wpList_load_mid rfl 35 _ rfl cb 0 rfl _ _ l1 Tryd.underlying35 rfl infoPat ?_))
  refine (A2.out _ _ _ _ _ _ w11 HI3.out HI4.out).mono ?_
  rintro e12 w12 ⟨rfl, hb12⟩
  clear l0 l1
  have HA := Lib.hid (HA.out.keep hb12 HA.out.lt)
  have HC := Lib.hid (HC.out.keep hb12 HC.out.lt)
  have HI3 := Lib.hid (HI3.out.keep hb12)
  have HI4 := Lib.hid (HI4.out.keep hb12)
  have HB := Lib.hid (HB.out.trans (hb12.mono HB.out.size))
  clear hb12
  clear HA HC
  go_wp2_with fail
  go_ret
  exact ⟨by simp, HB.out⟩
end Pr
end Go.Proofs.YtgagophijmiceaaDoor
