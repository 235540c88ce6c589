/- THE LAW GasKeeps: its walk, out of its callees' contracts. -/
import Derived.Test.YtekoldebcihdoaaGsR
import Derived.Test.YtekoldebcihdoaaGsT
import Derived.Test.YtekoldebcihdoaaGsM
import Derived.Test.YtekoldebcihdoaaGsP
import Derived.Test.YtekoldebcihdoaaGsE
namespace Go.Proofs.Ytekoldebcihdoaa
set_option linter.unusedSimpArgs false
set_option linter.unusedVariables false
open Go.RowKit
namespace Gs
open Tld Mem

theorem cN_lst {n k : Nat} {F : Nat → Nat} (hk : k < n) : cN (lstN n F) k = F k := by
  unfold cN
  rw [lstN_get hk, Int.toNat_natCast]
theorem gfault_lst {K W H n : Nat} {F : Nat → Nat} (ho : Ok K W H) (hn : n = W * H) (hs : sidesOk K W H) (hF : ∀ k, F k < 2 ^ K) : gfault K W H (lstN n F) = 0 := by
  have hsh : ¬ shapeBad K W H (lstN n F).length := by
    rw [lstN_len]
    unfold shapeBad
    have h1 : ((W * H : Nat) : Int) = (W : Int) * (H : Int) := by push_cast; rfl
    rintro (⟨h6, h2⟩ | h)
    · rcases ho.k with h4 | ⟨_, h3⟩
      · omega
      · omega
    · exact h (by rw [hn]; exact h1)
  rw [gfault_cells hs hsh, if_neg]
  rw [Bool.not_eq_true]
  refine any_no fun k hk => ?_
  rw [lstN_len] at hk
  rw [lstN_get hk]
  have h1 := hF k
  unfold gbad
  refine decide_eq_false ?_
  rcases ho.k with rfl | ⟨rfl, _⟩
  · have h2 : top ((4 : Nat) : Int) = 16 := rfl
    have h3 : (2 : Nat) ^ 4 = 16 := rfl
    rw [h2]; omega
  · have h2 : top ((6 : Nat) : Int) = 64 := rfl
    have h3 : (2 : Nat) ^ 6 = 64 := rfl
    rw [h2]; omega
theorem cN_lt {K n : Nat} {F : Nat → Nat} (hF : ∀ k, F k < 2 ^ K) (k : Nat) : cN (lstN n F) k < 2 ^ K := by
  rcases Nat.lt_or_ge k n with h | h
  · rw [cN_lst h]; exact hF k
  · unfold cN
    rw [List.getD_eq_getElem?_getD, List.getElem?_eq_none (by rw [lstN_len]; exact h)]
    exact Nat.two_pow_pos K
theorem massN_congr {F G : Nat → Nat} : ∀ n, (∀ k, k < n → F k = G k) → massN F n = massN G n
  | 0, _ => rfl
  | n + 1, h => by unfold massN; rw [massN_congr n fun k hk => h k (by omega), h n (by omega)]
theorem rfault_lst {K W H n : Nat} {F : Nat → Nat} {zs cs : List Int} {m : Int} (ho : Ok K W H) (hn : n = W * H) (hs : sidesOk K W H) (hF : ∀ k, F k < 2 ^ K) (h : rfault K W H zs cs m = 0) : rfault K W H (lstN n F) cs m = 0 := by
  obtain ⟨_, h2, h3, h4, h5⟩ := rfault_zero h
  unfold rfault
  rw [if_neg (fun x => x (gfault_lst ho hn hs hF)), if_neg (by rw [h4]; simp; omega), if_neg h5]
theorem list_back {n : Nat} {zs : List Int} {F : Nat → Nat} (hl : zs.length = n) (h : ∀ k, k < n → zs.getD k 0 = ((F k : Nat) : Int)) : lstN n F = zs := by
  apply List.ext_getElem (by rw [lstN_len, hl])
  intro i h1 h2
  have e := h i (by omega)
  rw [← lstN_get (F := F) (show i < n by omega), List.getD_eq_getElem?_getD, List.getD_eq_getElem?_getD, List.getElem?_eq_getElem h1, List.getElem?_eq_getElem h2] at e
  exact e.symm
theorem seven {w : World} {b : Nat} (h : Row w b 3 [.int .i64 7]) : Ints.Is w (some ⟨b, 0, none⟩) 1 [7] :=
  ⟨rfl, fun i hi => ⟨b, 0, rfl, h.lt, by
    rw [h.cell, Nat.zero_add]
    match i, hi with
    | 0, _ => rfl⟩, by unfold maxLen; omega⟩
theorem fact_any (b : Nat) (w : World) (h : Row w b 3 [.int .i64 7]) : Calls Try.prog 4 #[.agg #[.int .i64 4, .int .i64 1, .int .i64 1, .slice (some ⟨b, 0, none⟩) 1 1]] w fun e w' => e = .returned (.tuple #[.int .i64 3, .nilIface]) ∧ Below w.heap.size w w' :=
  mass_ok 4 1 1 (some ⟨b, 0, none⟩) 1 1 [7] w (seven h) (by decide)
/-- What holds of a run that nothing is wrong with. -/
structure GoodG (K W H n m : Nat) (zs cs : List Int) : Prop where
  ok : Ok K W H
  hn : n = W * H
  n2 : n ≤ 10000
  sides : sidesOk K W H
  coins : cs.any coinbad = false
  cells : ∀ k, 0 ≤ zs.getD k 0 ∧ cN zs k < 2 ^ K
  len : zs.length = n
  g : gfault K W H zs = 0
  r : rfault K W H zs cs m = 0
theorem good_of {K W H n m : Nat} {zs cs : List Int} (hl : zs.length = n) (h : rfault K W H zs cs m = 0) : GoodG K W H n m zs cs := by
  obtain ⟨hg, _, _, hc, _⟩ := rfault_zero h
  obtain ⟨hs, hsh, hcl⟩ := gfault_zero hg
  rw [hl] at hsh
  obtain ⟨hok, hn, hW, hH⟩ := ok_of hs hsh
  exact ⟨hok, hn, by rw [hn]; exact Nat.mul_le_mul hW hH, hs, hc, cell_rng hok hcl, hl, hg, h⟩
section
variable {K W H n m : Nat} {zs cs : List Int}
/-- What a run comes to. -/
def RR (K W H n m : Nat) (zs cs : List Int) : Nat → Nat := runG K W H (coinN cs n) (cN zs) m
theorem RR_lt (h : GoodG K W H n m zs cs) : ∀ k, RR K W H n m zs cs k < 2 ^ K := runG_lt (fun k => (h.cells k).2) m
theorem GoodG.after (h : GoodG K W H n m zs cs) {F : Nat → Nat} (hF : ∀ k, F k < 2 ^ K) : GoodG K W H n m (lstN n F) cs := good_of lstN_len (rfault_lst h.ok h.hn h.sides hF h.r)
theorem mass_same (h : GoodG K W H n m zs cs) : massN (cN (lstN n (RR K W H n m zs cs))) n = massN (cN zs) n := by
  have e1 : massN (cN (lstN n (RR K W H n m zs cs))) n = massN (RR K W H n m zs cs) n := massN_congr n fun k hk => cN_lst hk
  have e2 := massN_tot h.ok (RR_lt h) n
  have e3 := massN_tot h.ok (fun k => (h.cells k).2) n
  have e4 := runG_keeps (coin := coinN cs n) h.ok (fun k => (h.cells k).2) (coinN_lt h.coins n) v1 (fun x o hx ho => (met_keeps h.ok hx ho).1) m
  rw [← h.hn] at e4
  have e5 : tot (fun j => cw K v1 (RR K W H n m zs cs j)) n = tot (fun j => cw K v1 (cN zs j)) n := e4
  rw [e1]
  omega
theorem push_same (h : GoodG K W H n m zs cs) (v : Nat → Int) (hv : v = vR K ∨ v = vU K) : tot (fun j => cw K v (cN (lstN n (RR K W H n m zs cs)) j)) n = tot (fun j => cw K v (cN zs j)) n := by
  have e1 : tot (fun j => cw K v (cN (lstN n (RR K W H n m zs cs)) j)) n = tot (fun j => cw K v (RR K W H n m zs cs j)) n := tot_congr n fun k hk => by rw [cN_lst hk]
  rw [e1]
  have e4 := runG_keeps (coin := coinN cs n) h.ok (fun k => (h.cells k).2) (coinN_lt h.coins n) v (fun x o hx ho => by
    rcases hv with rfl | rfl
    · exact (met_keeps h.ok hx ho).2.1
    · exact (met_keeps h.ok hx ho).2.2) m
  rw [← h.hn] at e4
  exact e4
end
theorem trn_lt {K W H : Nat} {F : Nat → Nat} (k : Nat) : trn K W H F k < 2 ^ K := all1_lt
/-- There and back. -/
theorem back_list {W H n m : Nat} {zs cs : List Int} (h : GoodG 4 W H n m zs cs) :
    lstN n (trn 4 W H (cN (lstN n (RR 4 W H n m (lstN n (trn 4 W H (cN (lstN n (RR 4 W H n m zs cs))))) cs)))) = zs := by
  refine list_back h.len fun k hk => ?_
  have hkw : k < W * H := by rw [← h.hn]; exact hk
  have hc : ∀ {F : Nat → Nat}, ∀ i, i < W * H → cN (lstN n F) i = F i := fun i hi => cN_lst (by rw [h.hn]; exact hi)
  have e1 : trn 4 W H (cN (lstN n (RR 4 W H n m (lstN n (trn 4 W H (cN (lstN n (RR 4 W H n m zs cs))))) cs))) k = trn 4 W H (RR 4 W H n m (lstN n (trn 4 W H (cN (lstN n (RR 4 W H n m zs cs))))) cs) k := all1_congr h.ok hc k
  have e2 : ∀ i, i < W * H → RR 4 W H n m (lstN n (trn 4 W H (cN (lstN n (RR 4 W H n m zs cs))))) cs i = runG 4 W H (coinN cs n) (trn 4 W H (RR 4 W H n m zs cs)) m i := fun i hi =>
    runG_congr (coin' := coinN cs n) h.ok (fun j hj => by
      rw [hc j hj]
      exact all1_congr h.ok hc j) (fun _ _ _ _ => rfl) m i hi
  have e3 : trn 4 W H (RR 4 W H n m (lstN n (trn 4 W H (cN (lstN n (RR 4 W H n m zs cs))))) cs) k = trn 4 W H (runG 4 W H (coinN cs n) (trn 4 W H (RR 4 W H n m zs cs)) m) k := all1_congr h.ok e2 k
  have e4 := all_back (coin := coinN cs n) h.ok (fun k => (h.cells k).2) m hkw
  rw [e1, e3]
  have := (h.cells k).1
  have e5 : trn 4 W H (runG 4 W H (coinN cs n) (trn 4 W H (RR 4 W H n m zs cs)) m) k = cN zs k := e4
  rw [e5]
  unfold cN
  omega
set_option maxHeartbeats 8000000 in
set_option maxRecDepth 1000000 in
theorem gasKeeps_any (K W H : Int) (a : Option Addr) (n c : Nat) (zs : List Int) (ca : Option Addr) (cn cc : Nat) (cs : List Int) (m : Int) (w : World) (hZ : Ints.Is w a n zs) (hC : Ints.Is w ca cn cs) :
    Calls Try.prog 3 #[gas K W H a n c, .slice ca cn cc, .int .i64 m] w fun e w' => e = .returned (.bool true) ∧ Below w.heap.size w w' := by
  have HZ : Hid (∀ w2, Below w.heap.size w w2 → Ints.Is w2 a n zs) := Lib.hid (fun w2 h => hZ.keep h)
  have HC : Hid (∀ w2, Below w.heap.size w w2 → Ints.Is w2 ca cn cs) := Lib.hid (fun w2 h => hC.keep h)
  have HZL := Lib.hid hZ.len
  clear hZ hC
  have HK0 := Lib.hid fact_any
  unfold gas
  go_enter Try.func3, Try.ntmps3
  go_upto_region 1 with fail
  have hr0 : Row (w.alloc (.cells #[.int .i64 K, .int .i64 W, .int .i64 H, .slice a n c] 24)) w.heap.size 24 (boxG K W H a n c) := row_alloc w _ _
  have hb0 : Below w.heap.size w (w.alloc (.cells #[.int .i64 K, .int .i64 W, .int .i64 H, .slice a n c] 24)) := (Below.refl _ _).alloc (Nat.le_refl _) _
  have HR := Lib.hid hr0
  have HB := Lib.hid hb0
  clear hr0 hb0
  generalize w.alloc (.cells #[.int .i64 K, .int .i64 W, .int .i64 H, .slice a n c] 24) = w0 at *
  obtain ⟨gb, hgb⟩ : ∃ gb, gb = w.heap.size := ⟨_, rfl⟩
  rw [← hgb] at HR ⊢
  clear hgb
  go_wp2_with fail
  have hr7 : Row (w0.alloc (.cells #[.int .i64 7] 3)) w0.heap.size 3 [.int .i64 7] := row_alloc w0 _ _
  have hb7 : Below w0.heap.size w0 (w0.alloc (.cells #[.int .i64 7] 3)) := (Below.refl _ _).alloc (Nat.le_refl _) _
  have HR := Lib.hid (HR.out.keep hb7 HR.out.lt)
  have HB := Lib.hid (HB.out.trans (hb7.mono HB.out.size))
  generalize w0.alloc (.cells #[.int .i64 7] 3) = w00 at *
  refine (HK0.out _ _ hr7).mono ?_
  rintro e1 w1 ⟨rfl, hb1⟩
  have HR := Lib.hid (HR.out.keep hb1 HR.out.lt)
  have HB := Lib.hid (HB.out.trans (hb1.mono HB.out.size))
  clear hb7 hr7 hb1 HK0
  by_cases hf : rfault K W H zs cs m = 0
  · --{ok
    obtain ⟨hgf, hm0, _, _, _⟩ := rfault_zero hf
    obtain ⟨hsd, _, _⟩ := gfault_zero hgf
    obtain ⟨K, rfl⟩ : ∃ K' : Nat, K = K' := ⟨K.toNat, by have := hsd.1; omega⟩
    obtain ⟨W, rfl⟩ : ∃ W' : Nat, W = W' := ⟨W.toNat, by have := hsd.2.1; omega⟩
    obtain ⟨H, rfl⟩ : ∃ H' : Nat, H = H' := ⟨H.toNat, by have := hsd.2.2.2.1; omega⟩
    obtain ⟨m, rfl⟩ : ∃ m' : Nat, m = m' := ⟨m.toNat, by omega⟩
    have hG : GoodG K W H n m zs cs := good_of HZL.out hf
    have HG := Lib.hid hG
    clear hgf hm0 hsd hf
    obtain ⟨R, hRe⟩ : ∃ R, R = RR K W H n m zs cs := ⟨_, rfl⟩
    have HRE := Lib.hid hRe
    have HRL : Hid (∀ k, R k < 2 ^ K) := fun k => by rw [hRe]; exact RR_lt hG k
    have hnm : n ≤ maxLen := by have := hG.n2; unfold maxLen; omega
    have K1 := Lib.hid (fun w2 (h : Below w.heap.size w w2) => run_ok K W H a n c zs ca cn cc cs m w2 (HZ.out w2 h) (HC.out w2 h) hG.r)
    have K2 := Lib.hid (fun w2 (h : Below w.heap.size w w2) => mass_ok K W H a n c zs w2 (HZ.out w2 h) hG.g)
    have K3 := Lib.hid (fun g2 c2 w2 (h : Ints.Is w2 (some ⟨g2, 0, none⟩) n (lstN n R)) => mass_ok K W H (some ⟨g2, 0, none⟩) n c2 (lstN n R) w2 h (hG.after HRL.out).g)
    have K4 := Lib.hid (fun w2 (h : Below w.heap.size w w2) => push_ok K W H a n c zs w2 (HZ.out w2 h) hG.g)
    have K5 := Lib.hid (fun g2 c2 w2 (h : Ints.Is w2 (some ⟨g2, 0, none⟩) n (lstN n R)) => push_ok K W H (some ⟨g2, 0, none⟩) n c2 (lstN n R) w2 h (hG.after HRL.out).g)
    have m1 := mass_same hG
    have m2 := push_same hG (vR K) (.inl rfl)
    have m3 := push_same hG (vU K) (.inr rfl)
    rw [← hRe] at m1 m2 m3
    rw [m1] at K3
    rw [m2, m3] at K5
    have HNM := Lib.hid hnm
    clear m1 m2 m3 hG hRe hnm
    generalize massN (cN zs) n = M at *
    generalize tot (fun j => cw K (vR K) (cN zs j)) n = P1 at *
    generalize tot (fun j => cw K (vU K) (cN zs j)) n = P2 at *
    unfold gas at K1 K2 K3 K4 K5
    have l5 := row_range HR.out
    go_wp2_with (refine wpList_load_mid rfl 24 _ rfl gb 0 rfl _ _ l5 Try.underlying24 rfl infoGas ?_)
    refine (K1.out w1 HB.out).mono ?_
    rintro e2 w2 ⟨⟨g1, c1, rfl, hg1, hv1⟩, hb2⟩
    have HR := Lib.hid (HR.out.keep hb2 HR.out.lt)
    have HB := Lib.hid (HB.out.trans (hb2.mono HB.out.size))
    clear hb2 l5
    have hi1 := hv1.is HNM.out
    have e1 : lstN n (runG K W H (coinN cs n) (cN zs) m) = lstN n R := by rw [HRE.out]; rfl
    rw [e1] at hi1
    have HI1 := Lib.hid hi1
    clear hi1 hv1 hg1 e1 K1
    go_upto_region 5 with fail
    have hrx : Row (w2.alloc (.cells #[.int .i64 K, .int .i64 W, .int .i64 H, .slice (some ⟨g1, 0, none⟩) n c1] 24)) w2.heap.size 24 (boxG K W H (some ⟨g1, 0, none⟩) n c1) := row_alloc w2 _ _
    have hbx : Below w2.heap.size w2 (w2.alloc (.cells #[.int .i64 K, .int .i64 W, .int .i64 H, .slice (some ⟨g1, 0, none⟩) n c1] 24)) := (Below.refl _ _).alloc (Nat.le_refl _) _
    have HR := Lib.hid (HR.out.keep hbx HR.out.lt)
    have HI1 := Lib.hid (HI1.out.keep hbx)
    have HB := Lib.hid (HB.out.trans (hbx.mono HB.out.size))
    have HRA := Lib.hid hrx
    clear hbx hrx
    generalize w2.alloc (.cells #[.int .i64 K, .int .i64 W, .int .i64 H, .slice (some ⟨g1, 0, none⟩) n c1] 24) = w3 at *
    obtain ⟨ba, hba⟩ : ∃ ba, ba = w2.heap.size := ⟨_, rfl⟩
    rw [← hba] at HRA ⊢
    clear hba
    have l5 := row_range HR.out
    go_wp2_with (refine wpList_load_mid rfl 24 _ rfl gb 0 rfl _ _ l5 Try.underlying24 rfl infoGas ?_)
    refine (K2.out w3 HB.out).mono ?_
    rintro e4 w4 ⟨rfl, hb4⟩
    have HR := Lib.hid (HR.out.keep hb4 HR.out.lt)
    have HRA := Lib.hid (HRA.out.keep hb4 HRA.out.lt)
    have HI1 := Lib.hid (HI1.out.keep hb4)
    have HB := Lib.hid (HB.out.trans (hb4.mono HB.out.size))
    clear hb4 l5
    have l5 := row_range HRA.out
    go_wp2_with (refine wpList_load_mid rfl 24 _ rfl ba 0 rfl _ _ l5 Try.underlying24 rfl infoGas ?_)
    refine (K3.out g1 c1 w4 HI1.out).mono ?_
    rintro e5 w5 ⟨rfl, hb5⟩
    have HR := Lib.hid (HR.out.keep hb5 HR.out.lt)
    have HRA := Lib.hid (HRA.out.keep hb5 HRA.out.lt)
    have HI1 := Lib.hid (HI1.out.keep hb5)
    have HB := Lib.hid (HB.out.trans (hb5.mono HB.out.size))
    clear hb5 l5
    have l5 := row_range HR.out
    go_wp2_with (refine wpList_load_mid rfl 24 _ rfl gb 0 rfl _ _ l5 Try.underlying24 rfl infoGas ?_)
    refine (K4.out w5 HB.out).mono ?_
    rintro e6 w6 ⟨rfl, hb6⟩
    have HR := Lib.hid (HR.out.keep hb6 HR.out.lt)
    have HRA := Lib.hid (HRA.out.keep hb6 HRA.out.lt)
    have HI1 := Lib.hid (HI1.out.keep hb6)
    have HB := Lib.hid (HB.out.trans (hb6.mono HB.out.size))
    clear hb6 l5
    have l5 := row_range HRA.out
    go_wp2_with (refine wpList_load_mid rfl 24 _ rfl ba 0 rfl _ _ l5 Try.underlying24 rfl infoGas ?_)
    refine (K5.out g1 c1 w6 HI1.out).mono ?_
    rintro e7 w7 ⟨rfl, hb7⟩
    have HR := Lib.hid (HR.out.keep hb7 HR.out.lt)
    have HRA := Lib.hid (HRA.out.keep hb7 HRA.out.lt)
    have HI1 := Lib.hid (HI1.out.keep hb7)
    have HB := Lib.hid (HB.out.trans (hb7.mono HB.out.size))
    clear hb7 l5
    clear K2 K3 K4 K5
    have f0 := HR.out.cell 0
    unfold boxG at f0
    dsimp only [List.getElem?_cons_succ, List.getElem?_cons_zero] at f0
    by_cases h4 : K = 4
    · --{four
      subst h4
      obtain ⟨T1, hT1⟩ : ∃ T1, T1 = trn 4 W H (cN (lstN n R)) := ⟨_, rfl⟩
      have HT1L : Hid (∀ k, T1 k < 2 ^ 4) := fun k => by rw [hT1]; exact trn_lt k
      obtain ⟨R2, hR2⟩ : ∃ R2, R2 = RR 4 W H n m (lstN n T1) cs := ⟨_, rfl⟩
      have HR2L : Hid (∀ k, R2 k < 2 ^ 4) := fun k => by rw [hR2]; exact RR_lt (HG.out.after HT1L.out) k
      have hback := back_list HG.out
      rw [← HRE.out, ← hT1, ← hR2] at hback
      have K6 := Lib.hid (fun g2 c2 w2 (h : Ints.Is w2 (some ⟨g2, 0, none⟩) n (lstN n R)) => turned_ok 4 W H (some ⟨g2, 0, none⟩) n c2 (lstN n R) w2 h (HG.out.after HRL.out).g)
      have K7 := Lib.hid (fun g2 c2 w2 (hb : Below w.heap.size w w2) (h : Ints.Is w2 (some ⟨g2, 0, none⟩) n (lstN n T1)) => run_ok 4 W H (some ⟨g2, 0, none⟩) n c2 (lstN n T1) ca cn cc cs m w2 h (HC.out w2 hb) (HG.out.after HT1L.out).r)
      have K8 := Lib.hid (fun g2 c2 w2 (h : Ints.Is w2 (some ⟨g2, 0, none⟩) n (lstN n R2)) => turned_ok 4 W H (some ⟨g2, 0, none⟩) n c2 (lstN n R2) w2 h (HG.out.after HR2L.out).g)
      have K9 := Lib.hid (fun g2 c2 w2 (hb : Below w.heap.size w w2) (h : Ints.Is w2 (some ⟨g2, 0, none⟩) n zs) => gases_any (4 : Nat) W H (some ⟨g2, 0, none⟩) a n c2 c zs w2 h (HZ.out w2 hb))
      have HT1 := Lib.hid hT1
      have HR2 := Lib.hid hR2
      have HBK := Lib.hid hback
      clear hT1 hR2 hback
      unfold gas at K6 K7 K8 K9
      have l5 := row_range HRA.out
      go_wp2_with (refine wpList_load_mid rfl 24 _ rfl ba 0 rfl _ _ l5 Try.underlying24 rfl infoGas ?_)
      refine (K6.out g1 c1 w7 HI1.out).mono ?_
      rintro e8 w8 ⟨⟨g2, c2, rfl, hg2, hv2⟩, hb8⟩
      have HR := Lib.hid (HR.out.keep hb8 HR.out.lt)
      have HRA := Lib.hid (HRA.out.keep hb8 HRA.out.lt)
      have HI1 := Lib.hid (HI1.out.keep hb8)
      have HB := Lib.hid (HB.out.trans (hb8.mono HB.out.size))
      clear hb8 l5
      have hi2 := hv2.is HNM.out
      rw [← HT1.out] at hi2
      have HI2 := Lib.hid hi2
      clear hi2 hv2 hg2 K6 f0
      go_upto_region 16 with fail
      have hrx : Row (w8.alloc (.cells #[.int .i64 (4 : Nat), .int .i64 W, .int .i64 H, .slice (some ⟨g2, 0, none⟩) n c2] 24)) w8.heap.size 24 (boxG (4 : Nat) W H (some ⟨g2, 0, none⟩) n c2) := row_alloc w8 _ _
      have hbx : Below w8.heap.size w8 (w8.alloc (.cells #[.int .i64 (4 : Nat), .int .i64 W, .int .i64 H, .slice (some ⟨g2, 0, none⟩) n c2] 24)) := (Below.refl _ _).alloc (Nat.le_refl _) _
      have HR := Lib.hid (HR.out.keep hbx HR.out.lt)
      have HRA := Lib.hid (HRA.out.keep hbx HRA.out.lt)
      have HI1 := Lib.hid (HI1.out.keep hbx)
      have HI2 := Lib.hid (HI2.out.keep hbx)
      have HB := Lib.hid (HB.out.trans (hbx.mono HB.out.size))
      have HRB := Lib.hid hrx
      clear hbx hrx
      generalize w8.alloc (.cells #[.int .i64 (4 : Nat), .int .i64 W, .int .i64 H, .slice (some ⟨g2, 0, none⟩) n c2] 24) = w9 at *
      obtain ⟨bb, hbb⟩ : ∃ bb, bb = w8.heap.size := ⟨_, rfl⟩
      rw [← hbb] at HRB ⊢
      clear hbb
      have l5 := row_range HRB.out
      go_wp2_with (refine wpList_load_mid rfl 24 _ rfl bb 0 rfl _ _ l5 Try.underlying24 rfl infoGas ?_)
      refine (K7.out g2 c2 w9 HB.out HI2.out).mono ?_
      rintro e10 w10 ⟨⟨g3, c3, rfl, hg3, hv3⟩, hb10⟩
      have HR := Lib.hid (HR.out.keep hb10 HR.out.lt)
      have HRA := Lib.hid (HRA.out.keep hb10 HRA.out.lt)
      have HRB := Lib.hid (HRB.out.keep hb10 HRB.out.lt)
      have HI1 := Lib.hid (HI1.out.keep hb10)
      have HI2 := Lib.hid (HI2.out.keep hb10)
      have HB := Lib.hid (HB.out.trans (hb10.mono HB.out.size))
      clear hb10 l5
      have hi3 := hv3.is HNM.out
      have e3 : lstN n (runG 4 W H (coinN cs n) (cN (lstN n T1)) m) = lstN n R2 := by rw [HR2.out]; rfl
      rw [e3] at hi3
      have HI3 := Lib.hid hi3
      clear hi3 hv3 hg3 e3 K7
      go_upto_region 17 with fail
      have hrx : Row (w10.alloc (.cells #[.int .i64 (4 : Nat), .int .i64 W, .int .i64 H, .slice (some ⟨g3, 0, none⟩) n c3] 24)) w10.heap.size 24 (boxG (4 : Nat) W H (some ⟨g3, 0, none⟩) n c3) := row_alloc w10 _ _
      have hbx : Below w10.heap.size w10 (w10.alloc (.cells #[.int .i64 (4 : Nat), .int .i64 W, .int .i64 H, .slice (some ⟨g3, 0, none⟩) n c3] 24)) := (Below.refl _ _).alloc (Nat.le_refl _) _
      have HR := Lib.hid (HR.out.keep hbx HR.out.lt)
      have HRA := Lib.hid (HRA.out.keep hbx HRA.out.lt)
      have HRB := Lib.hid (HRB.out.keep hbx HRB.out.lt)
      have HI1 := Lib.hid (HI1.out.keep hbx)
      have HI2 := Lib.hid (HI2.out.keep hbx)
      have HI3 := Lib.hid (HI3.out.keep hbx)
      have HB := Lib.hid (HB.out.trans (hbx.mono HB.out.size))
      have HRC := Lib.hid hrx
      clear hbx hrx
      generalize w10.alloc (.cells #[.int .i64 (4 : Nat), .int .i64 W, .int .i64 H, .slice (some ⟨g3, 0, none⟩) n c3] 24) = w11 at *
      obtain ⟨bc, hbc⟩ : ∃ bc, bc = w10.heap.size := ⟨_, rfl⟩
      rw [← hbc] at HRC ⊢
      clear hbc
      have l5 := row_range HRC.out
      go_wp2_with (refine wpList_load_mid rfl 24 _ rfl bc 0 rfl _ _ l5 Try.underlying24 rfl infoGas ?_)
      refine (K8.out g3 c3 w11 HI3.out).mono ?_
      rintro e12 w12 ⟨⟨g4, c4, rfl, hg4, hv4⟩, hb12⟩
      have HR := Lib.hid (HR.out.keep hb12 HR.out.lt)
      have HRA := Lib.hid (HRA.out.keep hb12 HRA.out.lt)
      have HRB := Lib.hid (HRB.out.keep hb12 HRB.out.lt)
      have HRC := Lib.hid (HRC.out.keep hb12 HRC.out.lt)
      have HI1 := Lib.hid (HI1.out.keep hb12)
      have HI2 := Lib.hid (HI2.out.keep hb12)
      have HI3 := Lib.hid (HI3.out.keep hb12)
      have HB := Lib.hid (HB.out.trans (hb12.mono HB.out.size))
      clear hb12 l5
      have hi4 := hv4.is HNM.out
      rw [HBK.out] at hi4
      have HI4 := Lib.hid hi4
      clear hi4 hv4 hg4 K8
      go_upto_region 18 with fail
      have hrx : Row (w12.alloc (.cells #[.int .i64 (4 : Nat), .int .i64 W, .int .i64 H, .slice (some ⟨g4, 0, none⟩) n c4] 24)) w12.heap.size 24 (boxG (4 : Nat) W H (some ⟨g4, 0, none⟩) n c4) := row_alloc w12 _ _
      have hbx : Below w12.heap.size w12 (w12.alloc (.cells #[.int .i64 (4 : Nat), .int .i64 W, .int .i64 H, .slice (some ⟨g4, 0, none⟩) n c4] 24)) := (Below.refl _ _).alloc (Nat.le_refl _) _
      have HR := Lib.hid (HR.out.keep hbx HR.out.lt)
      have HRA := Lib.hid (HRA.out.keep hbx HRA.out.lt)
      have HRB := Lib.hid (HRB.out.keep hbx HRB.out.lt)
      have HRC := Lib.hid (HRC.out.keep hbx HRC.out.lt)
      have HI1 := Lib.hid (HI1.out.keep hbx)
      have HI2 := Lib.hid (HI2.out.keep hbx)
      have HI3 := Lib.hid (HI3.out.keep hbx)
      have HI4 := Lib.hid (HI4.out.keep hbx)
      have HB := Lib.hid (HB.out.trans (hbx.mono HB.out.size))
      have HRD := Lib.hid hrx
      clear hbx hrx
      generalize w12.alloc (.cells #[.int .i64 (4 : Nat), .int .i64 W, .int .i64 H, .slice (some ⟨g4, 0, none⟩) n c4] 24) = w13 at *
      obtain ⟨bd, hbd⟩ : ∃ bd, bd = w12.heap.size := ⟨_, rfl⟩
      rw [← hbd] at HRD ⊢
      clear hbd
      have l5 := row_range HR.out
      have l6 := row_range HRD.out
      go_wp2_with (first | (refine wpList_load_mid rfl 24 _ rfl gb 0 rfl _ _ l5 Try.underlying24 rfl infoGas ?_) | (refine wpList_load_mid rfl 24 _ rfl bd 0 rfl _ _ l6 Try.underlying24 rfl infoGas ?_))
      refine (K9.out g4 c4 w13 HB.out HI4.out).mono ?_
      rintro e14 w14 ⟨rfl, hb14⟩
      have HB := Lib.hid (HB.out.trans (hb14.mono HB.out.size))
      clear hb14 l5 l6
      go_wp2_with fail
      go_ret
      exact ⟨by simp, HB.out⟩
      --}
    · have hk4 : ((K : Int) != 4) = true := by rw [bne_iff_ne]; omega
      have hk5 : ¬ (K : Int) = 4 := by omega
      go_wp2_with fail
      go_ret
      exact ⟨rfl, HB.out⟩
    --}
  · --{bad
    have K1 := Lib.hid (fun w2 (h : Below w.heap.size w w2) => run_bad K W H a n c zs ca cn cc cs m w2 (HZ.out w2 h) (HC.out w2 h) hf)
    rw [errV_some hf] at K1
    generalize rfault K W H zs cs m = e at *
    unfold gas at K1
    clear hf
    have l5 := row_range HR.out
    go_wp2_with (refine wpList_load_mid rfl 24 _ rfl gb 0 rfl _ _ l5 Try.underlying24 rfl infoGas ?_)
    refine (K1.out w1 HB.out).mono ?_
    rintro e2 w2 ⟨rfl, hb2⟩
    have HB := Lib.hid (HB.out.trans (hb2.mono HB.out.size))
    clear hb2 l5 K1
    go_wp2_with fail
    go_ret
    exact ⟨rfl, HB.out.alloc HB.out.size _⟩
    --}
  end Gs
  end Go.Proofs.Ytekoldebcihdoaa
