/- WALK: plane.Parent. -/
import Derived.Test.YthipeeagpllfeaaDoorPpFn
import Derived.Test.YthipeeagpllfeaaDoorPnE
import Derived.Carry
namespace Go.Proofs.YthipeeagpllfeaaDoor
set_option linter.unusedSimpArgs false
set_option linter.unusedVariables false
open Go.RowKit
namespace Pn
open Tld Mem Bl

/-- A number's cells, the first one highest. -/
def cellsN (m N : Nat) : List Int := lstN m (fun j => bt N (m - 1 - j))
theorem is_row {w : World} {b : Nat} {T : TypeId} {zs : List Int} {n : Nat} (h : Row w b T (zs.map (Value.int .i64))) (hn : zs.length = n) (hm : n ≤ maxLen) : Ints.Is w (some ⟨b, 0, none⟩) n zs :=
  ⟨hn, fun i hi => ⟨b, 0, rfl, h.lt, by
    dsimp only
    rw [Nat.zero_add, h.cell, List.getElem?_map, List.getD_eq_getElem?_getD, List.getElem?_eq_getElem (show i < zs.length by omega)]
    rfl⟩, hm⟩
theorem wrt_le {Q : Nat} (hQ : Q ≤ 128) : ∀ k, wrt Q k ≤ 129 ^ k
  | 0 => Nat.zero_le _
  | k + 1 => by
    have h := wrt_le hQ k
    have h2 := Nat.mul_le_mul hQ h
    have h3 : 0 < 129 ^ k := Nat.pow_pos (by decide)
    show Q * wrt Q k + 1 ≤ 129 ^ k * 129
    omega
theorem cap_le {Q H x y : Nat} (hQ : Q ≤ 128) (hH : H ≤ 5) (hx : x < Q) (hy : y < Q) : x * (Q * wrt Q H) + y * wrt Q H + wrt Q H ≤ 1000000000000000000 := by
  have h1 := wrt_le hQ H
  have h2 : 129 ^ H ≤ 129 ^ 5 := Nat.pow_le_pow_right (by decide) hH
  have h3 : (129 : Nat) ^ 5 = 35723051649 := by decide
  have h4 : wrt Q H ≤ 35723051649 := by omega
  have h5 := Nat.mul_le_mul hQ h4
  have h6 := Nat.mul_le_mul (show x ≤ 128 by omega) h5
  have h7 := Nat.mul_le_mul (show y ≤ 128 by omega) h4
  omega
theorem rws_len (Q : Nat) : ∀ k s, (rws Q k s).length = k
  | 0, _ => rfl
  | k + 1, s => by show (rws Q k _).length + 1 = k + 1; rw [rws_len Q k]
theorem rws_get {Q : Nat} : ∀ (k s y : Nat), y < k → s < Q ^ k → (rws Q k s).getD y 0 = ((s / Q ^ (k - 1 - y) % Q : Nat) : Int)
  | 0, s, y, hy, _ => absurd hy (Nat.not_lt_zero _)
  | k + 1, s, 0, _, hs => by
    show ((s / Q ^ k : Nat) : Int) = _
    rw [show k + 1 - 1 - 0 = k by omega, Nat.mod_eq_of_lt (Nat.div_lt_of_lt_mul (by rw [← Nat.pow_succ]; exact hs))]
  | k + 1, s, y + 1, hy, hs => by
    have hQ : 0 < Q ^ k := by
      rcases Nat.eq_zero_or_pos (Q ^ k) with e | e
      · rw [Nat.pow_succ, e, Nat.zero_mul] at hs; omega
      · exact e
    have ih := rws_get (Q := Q) k (s % Q ^ k) y (by omega) (Nat.mod_lt _ hQ)
    show (rws Q k (s % Q ^ k)).getD y 0 = _
    rw [ih, show k + 1 - 1 - (y + 1) = k - 1 - y by omega]
    have e : Q ^ k = Q ^ (k - 1 - y) * (Q * Q ^ y) := by
      rw [← Nat.pow_succ', ← Nat.pow_add]
      congr 1
      omega
    rw [e, Nat.mod_mul_right_div_self, Nat.mod_mul_right_mod]
theorem pa_nums {wd W x rv : Nat} (hwd : wd = W + 2) (hW : W ≤ 5) (hx : x < wd) (hr : rv < 128) : ∃ s1 s cv : Nat, cv = rb wd rv x ∧ min s 64 = s ∧ wrap64 ((wd : Int) - 1) = (s1 : Int) ∧ wrap64 ((s1 : Int) - (x : Int)) = (s : Int) ∧ bits .and .i64 ((rv : Int) / 2 ^ s) 1 = (cv : Int) := by
  refine ⟨wd - 1, wd - 1 - x, rb wd rv x, rfl, Nat.min_eq_left (by omega), wr_nat (by omega) (by omega), wr_nat (by omega) (by omega), ?_⟩
  rw [sh7 hr (by omega)]
  rfl
theorem pa_cell {wd W H Q N t x : Nat} (hwd : wd = W + 2) (hQ : Q = 2 ^ wd) (ht : t < H + 2) (hx : x < wd) : rb wd (rowN Q (H + 2) N t) x = bt N ((H + 2) * wd - 1 - (t * wd + x)) := by
  subst hwd
  subst hQ
  rw [rb_row hx ht]
  congr 1
  obtain ⟨d, hd⟩ : ∃ d, H + 2 = t + 1 + d := ⟨H + 2 - t - 1, by omega⟩
  generalize W + 2 = v at *
  have e1 : H + 2 - 1 - t = d := by omega
  have e2 : (H + 2) * v = t * v + v + v * d := by rw [hd, Nat.add_mul, Nat.add_mul, Nat.one_mul, Nat.mul_comm d]
  rw [e1, e2]
  generalize v * d = q
  generalize t * v = p
  omega
set_option maxHeartbeats 8000000 in
set_option maxRecDepth 1000000 in
theorem parent_bad (K B S st ra : Int) (ta : Option Addr) (tn tc : Nat) (tz : List Int) (tu : ByteArray) (W H : Int) (a : Option Addr) (n c : Nat) (zs : List Int) (w : World) (hT : Ints.Is w ta tn tz) (hu : tu.size ≤ 9223372036854775807) (hZ : Ints.Is w a n zs) (hf : plf K B S st ra tn tz tu W H zs ≠ 0) :
    Calls Tryd.prog 7 #[.agg #[.int .i64 K, .int .i64 B, .int .i64 S, .int .i64 st, .int .i64 ra, .slice ta tn tc, .string tu], .agg #[.int .i64 W, .int .i64 H, .slice a n c]] w fun e w' => e = .returned (.tuple #[.agg #[.int .i64 0, .int .i64 0, .slice none 0 0], errV (plf K B S st ra tn tz tu W H zs)]) ∧ Below w.heap.size w w' := by
  have HK := Lib.hid (fun w2 (h : Below w.heap.size w w2) => check_any K B S st ra ta tn tc tz tu W H a n c zs w2 (hT.keep h) hu (hZ.keep h))
  generalize plf K B S st ra tn tz tu W H zs = ev at *
  have HE := Lib.hid (errV_some hf)
  rw [HE.out] at HK ⊢
  clear hT hu hZ hf
  go_enter Tryd.func7, Tryd.ntmps7
  go_upto_region 1 with fail
  obtain ⟨hr1, hr2, hr3, hb2⟩ := three_new w 24 26 26 (rulP K B S st ra ta tn tc tu) (boxP W H a n c) noPat
  have HU : Hid (Row (((w.alloc (.cells #[.int .i64 K, .int .i64 B, .int .i64 S, .int .i64 st, .int .i64 ra, .slice ta tn tc, .string tu] 24)).alloc (.cells #[.int .i64 W, .int .i64 H, .slice a n c] 26)).alloc (.cells #[.int .i64 0, .int .i64 0, .slice none 0 0] 26)) w.heap.size 24 (rulP K B S st ra ta tn tc tu)) := hr1
  have HP : Hid (Row (((w.alloc (.cells #[.int .i64 K, .int .i64 B, .int .i64 S, .int .i64 st, .int .i64 ra, .slice ta tn tc, .string tu] 24)).alloc (.cells #[.int .i64 W, .int .i64 H, .slice a n c] 26)).alloc (.cells #[.int .i64 0, .int .i64 0, .slice none 0 0] 26)) (w.heap.size + 1) 26 (boxP W H a n c)) := hr2
  have HR : Hid (Row (((w.alloc (.cells #[.int .i64 K, .int .i64 B, .int .i64 S, .int .i64 st, .int .i64 ra, .slice ta tn tc, .string tu] 24)).alloc (.cells #[.int .i64 W, .int .i64 H, .slice a n c] 26)).alloc (.cells #[.int .i64 0, .int .i64 0, .slice none 0 0] 26)) (w.heap.size + 1 + 1) 26 noPat) := hr3
  have HB : Hid (Below w.heap.size w (((w.alloc (.cells #[.int .i64 K, .int .i64 B, .int .i64 S, .int .i64 st, .int .i64 ra, .slice ta tn tc, .string tu] 24)).alloc (.cells #[.int .i64 W, .int .i64 H, .slice a n c] 26)).alloc (.cells #[.int .i64 0, .int .i64 0, .slice none 0 0] 26))) := hb2
  clear hr1 hr2 hr3 hb2
  generalize ((w.alloc (.cells #[.int .i64 K, .int .i64 B, .int .i64 S, .int .i64 st, .int .i64 ra, .slice ta tn tc, .string tu] 24)).alloc (.cells #[.int .i64 W, .int .i64 H, .slice a n c] 26)).alloc (.cells #[.int .i64 0, .int .i64 0, .slice none 0 0] 26) = w1 at *
  obtain ⟨ub, hub⟩ : ∃ ub, ub = w.heap.size := ⟨_, rfl⟩
  rw [← hub] at HU HP HR ⊢
  obtain ⟨pb, hpb⟩ : ∃ pb, pb = ub + 1 := ⟨_, rfl⟩
  rw [← hpb] at HP HR ⊢
  obtain ⟨rb, hrb⟩ : ∃ rb, rb = pb + 1 := ⟨_, rfl⟩
  rw [← hrb] at HR ⊢
  have HRB : Hid (w.heap.size ≤ rb ∧ pb ≠ rb) := Lib.hid (by omega)
  clear hub hpb hrb
  have l5 := row_range HU.out
  have l6 := row_range HP.out
  go_wp2_with (first | (refine wpList_load_mid rfl 24 _ rfl ub 0 rfl _ _ l5 Tryd.underlying24 rfl infoRule ?_) | (refine wpList_load_mid rfl 26 _ rfl pb 0 rfl _ _ l6 Tryd.underlying26 rfl infoPat ?_))
  refine (HK.out _ HB.out).mono ?_
  rintro e2 w2 ⟨rfl, hb2⟩
  have HU := Lib.hid (HU.out.keep hb2 HU.out.lt)
  have HP := Lib.hid (HP.out.keep hb2 HP.out.lt)
  have HR := Lib.hid (HR.out.keep hb2 HR.out.lt)
  have HB := Lib.hid (HB.out.trans (hb2.mono HB.out.size))
  clear l5 l6 hb2
  go_wp2_with (refine Ops.wpList_store_arr rfl 26 _ _ rfl rb rfl 26 _ noPat rfl HR.out rfl infoPat noPat_one ?_; intro w5 hrow5 hon5)
  exact bodyPost_ret (results_pat (t := 4) (u := 5) (e := .iface 47 (.int .i64 ev)) rfl _ _ hrow5 rfl rfl rfl) rfl ⟨rfl, HB.out.trans (hon5.below HRB.out.1)⟩
set_option maxHeartbeats 8000000 in
set_option maxRecDepth 1000000 in
theorem parent_full (K B S st ra : Int) (ta : Option Addr) (tn tc : Nat) (tz : List Int) (tu : ByteArray) (W H : Int) (a : Option Addr) (n c : Nat) (zs : List Int) (w : World) (hT : Ints.Is w ta tn tz) (hu : tu.size ≤ 9223372036854775807) (hZ : Ints.Is w a n zs) (hf : plf K B S st ra tn tz tu W H zs = 0) (hb : 5 < W ∨ 5 < H) :
    Calls Tryd.prog 7 #[.agg #[.int .i64 K, .int .i64 B, .int .i64 S, .int .i64 st, .int .i64 ra, .slice ta tn tc, .string tu], .agg #[.int .i64 W, .int .i64 H, .slice a n c]] w fun e w' => e = .returned (.tuple #[.agg #[.int .i64 0, .int .i64 0, .slice none 0 0], errV 4]) ∧ Below w.heap.size w w' := by
  have HK := Lib.hid (fun w2 (h : Below w.heap.size w w2) => check_any K B S st ra ta tn tc tz tu W H a n c zs w2 (hT.keep h) hu (hZ.keep h))
  rw [hf, errV_zero rfl] at HK
  clear hT hu hZ hf
  go_enter Tryd.func7, Tryd.ntmps7
  go_upto_region 1 with fail
  obtain ⟨hr1, hr2, hr3, hb2⟩ := three_new w 24 26 26 (rulP K B S st ra ta tn tc tu) (boxP W H a n c) noPat
  have HU : Hid (Row (((w.alloc (.cells #[.int .i64 K, .int .i64 B, .int .i64 S, .int .i64 st, .int .i64 ra, .slice ta tn tc, .string tu] 24)).alloc (.cells #[.int .i64 W, .int .i64 H, .slice a n c] 26)).alloc (.cells #[.int .i64 0, .int .i64 0, .slice none 0 0] 26)) w.heap.size 24 (rulP K B S st ra ta tn tc tu)) := hr1
  have HP : Hid (Row (((w.alloc (.cells #[.int .i64 K, .int .i64 B, .int .i64 S, .int .i64 st, .int .i64 ra, .slice ta tn tc, .string tu] 24)).alloc (.cells #[.int .i64 W, .int .i64 H, .slice a n c] 26)).alloc (.cells #[.int .i64 0, .int .i64 0, .slice none 0 0] 26)) (w.heap.size + 1) 26 (boxP W H a n c)) := hr2
  have HR : Hid (Row (((w.alloc (.cells #[.int .i64 K, .int .i64 B, .int .i64 S, .int .i64 st, .int .i64 ra, .slice ta tn tc, .string tu] 24)).alloc (.cells #[.int .i64 W, .int .i64 H, .slice a n c] 26)).alloc (.cells #[.int .i64 0, .int .i64 0, .slice none 0 0] 26)) (w.heap.size + 1 + 1) 26 noPat) := hr3
  have HB : Hid (Below w.heap.size w (((w.alloc (.cells #[.int .i64 K, .int .i64 B, .int .i64 S, .int .i64 st, .int .i64 ra, .slice ta tn tc, .string tu] 24)).alloc (.cells #[.int .i64 W, .int .i64 H, .slice a n c] 26)).alloc (.cells #[.int .i64 0, .int .i64 0, .slice none 0 0] 26))) := hb2
  clear hr1 hr2 hr3 hb2
  generalize ((w.alloc (.cells #[.int .i64 K, .int .i64 B, .int .i64 S, .int .i64 st, .int .i64 ra, .slice ta tn tc, .string tu] 24)).alloc (.cells #[.int .i64 W, .int .i64 H, .slice a n c] 26)).alloc (.cells #[.int .i64 0, .int .i64 0, .slice none 0 0] 26) = w1 at *
  obtain ⟨ub, hub⟩ : ∃ ub, ub = w.heap.size := ⟨_, rfl⟩
  rw [← hub] at HU HP HR ⊢
  obtain ⟨pb, hpb⟩ : ∃ pb, pb = ub + 1 := ⟨_, rfl⟩
  rw [← hpb] at HP HR ⊢
  obtain ⟨rb, hrb⟩ : ∃ rb, rb = pb + 1 := ⟨_, rfl⟩
  rw [← hrb] at HR ⊢
  have HRB : Hid (w.heap.size ≤ rb ∧ pb ≠ rb) := Lib.hid (by omega)
  clear hub hpb hrb
  have l5 := row_range HU.out
  have l6 := row_range HP.out
  go_wp2_with (first | (refine wpList_load_mid rfl 24 _ rfl ub 0 rfl _ _ l5 Tryd.underlying24 rfl infoRule ?_) | (refine wpList_load_mid rfl 26 _ rfl pb 0 rfl _ _ l6 Tryd.underlying26 rfl infoPat ?_))
  refine (HK.out _ HB.out).mono ?_
  rintro e2 w2 ⟨rfl, hb2⟩
  have HU := Lib.hid (HU.out.keep hb2 HU.out.lt)
  have HP := Lib.hid (HP.out.keep hb2 HP.out.lt)
  have HR := Lib.hid (HR.out.keep hb2 HR.out.lt)
  have HB := Lib.hid (HB.out.trans (hb2.mono HB.out.size))
  clear l5 l6 hb2
  have p0 := HP.out.cell 0
  have p1 := HP.out.cell 1
  unfold boxP at p0 p1
  dsimp only [List.getElem?_cons_succ, List.getElem?_cons_zero] at p0 p1
  by_cases hw : 5 < W
  · go_wp2_with (refine Ops.wpList_store_arr rfl 26 _ _ rfl rb rfl 26 _ noPat rfl HR.out rfl infoPat noPat_one ?_; intro w5 hrow5 hon5)
    exact bodyPost_ret (results_pat (t := 4) (u := 5) (e := errV 4) rfl _ _ hrow5 rfl rfl rfl) rfl ⟨rfl, HB.out.trans (hon5.below HRB.out.1)⟩
  · have hh : 5 < H := by omega
    go_wp2_with (refine Ops.wpList_store_arr rfl 26 _ _ rfl rb rfl 26 _ noPat rfl HR.out rfl infoPat noPat_one ?_; intro w5 hrow5 hon5)
    exact bodyPost_ret (results_pat (t := 4) (u := 5) (e := errV 4) rfl _ _ hrow5 rfl rfl rfl) rfl ⟨rfl, HB.out.trans (hon5.below HRB.out.1)⟩
set_option maxHeartbeats 16000000 in
set_option maxRecDepth 1000000 in
theorem parent_ok (K st ra : Int) (B S : Nat) (ta : Option Addr) (tn tc : Nat) (tz : List Int) (tu : ByteArray) (W H : Nat) (a : Option Addr) (n c : Nat) (f : Nat → Nat → Nat) (wd Q : Nat) (w : World) (hBS : B < 512) (hSS : S < 512) (hwd : wd = W + 2) (hQ : Q = 2 ^ wd) (hT : Ints.Is w ta tn tz) (hu : tu.size ≤ 9223372036854775807) (hZ : Ints.Is w a n (flat W H f)) (hn : n = W * H) (hW : W ≤ 5) (hH : H ≤ 5) (hf : plf K B S st ra tn tz tu W H (flat W H f) = 0) :
    Calls Tryd.prog 7 #[.agg #[.int .i64 K, .int .i64 B, .int .i64 S, .int .i64 st, .int .i64 ra, .slice ta tn tc, .string tu], .agg #[.int .i64 W, .int .i64 H, .slice a n c]] w fun e w' => ((e = .returned (.tuple #[.agg #[.int .i64 0, .int .i64 0, .slice none 0 0], errV 5]) ∧ RowF (mkI B S f wd W) Q (H + 2) 0 0 0 none) ∨ (∃ ao co N, e = .returned (.tuple #[.agg #[.int .i64 (wd : Nat), .int .i64 ((H + 2 : Nat) : Int), .slice ao ((H + 2) * wd) co], .nilIface]) ∧ RowF (mkI B S f wd W) Q (H + 2) 0 0 0 (some N) ∧ Ints.Is w' ao ((H + 2) * wd) (cellsN ((H + 2) * wd) N) ∧ (H + 2) * wd ≤ co)) ∧ Below w.heap.size w w' := by
  have HK := Lib.hid (fun w2 (h : Below w.heap.size w w2) => check_any K B S st ra ta tn tc tz tu W H a n c (flat W H f) w2 (hT.keep h) hu (hZ.keep h))
  rw [hf, errV_zero rfl] at HK
  have HFN := Lib.hid (fun (fb mb : Nat) => find_any K st ra B S ta tn tc tu W H a n c f fb mb wd Q hBS hSS hwd hQ hn hW hH H 2)
  have HZ := Lib.hid (fun w2 (h : Below w.heap.size w w2) => hZ.keep h)
  have HWD := Lib.hid hwd
  have HQ := Lib.hid hQ
  have HW5 := Lib.hid hW
  have HH5 := Lib.hid hH
  have HQ8 := Lib.hid (q_le7 hQ hwd hW)
  have hmm := @run_makeMap Tryd.prog
  obtain ⟨h2, hh2⟩ : ∃ h2, h2 = H + 2 := ⟨_, rfl⟩
  have HH2 : Hid (h2 = H + 2 ∧ h2 ≤ 7) := Lib.hid (by omega)
  have HAH : Hid (wrap64 ((H : Int) + 2) = (h2 : Int)) := Lib.hid (wr_nat (by omega) (by omega))
  have qE : ∀ (w : World) (a : Option Addr) (n c n' c' : Nat), (binOp .eql 22 (.slice a n c) (.slice none n' c')).run Tryd.prog w = .ok (.bool a.isNone) w := fun w a n c n' c' => Lib.run_eql_slice_nil w _ _ a n c n' c' Tryd.underlying22
  have HAW : Hid (wrap64 ((W : Int) + 2) = (wd : Int)) := Lib.hid (wr_nat (by omega) (by omega))
  clear hT hu hZ hn hW hH hf hBS hSS hwd hQ hh2
  go_enter Tryd.func7, Tryd.ntmps7
  go_upto_region 1 with fail
  obtain ⟨hr1, hr2, hr3, hb2⟩ := three_new w 24 26 26 (rulP K B S st ra ta tn tc tu) (boxP W H a n c) noPat
  have HU : Hid (Row (((w.alloc (.cells #[.int .i64 K, .int .i64 B, .int .i64 S, .int .i64 st, .int .i64 ra, .slice ta tn tc, .string tu] 24)).alloc (.cells #[.int .i64 W, .int .i64 H, .slice a n c] 26)).alloc (.cells #[.int .i64 0, .int .i64 0, .slice none 0 0] 26)) w.heap.size 24 (rulP K B S st ra ta tn tc tu)) := hr1
  have HP : Hid (Row (((w.alloc (.cells #[.int .i64 K, .int .i64 B, .int .i64 S, .int .i64 st, .int .i64 ra, .slice ta tn tc, .string tu] 24)).alloc (.cells #[.int .i64 W, .int .i64 H, .slice a n c] 26)).alloc (.cells #[.int .i64 0, .int .i64 0, .slice none 0 0] 26)) (w.heap.size + 1) 26 (boxP W H a n c)) := hr2
  have HR : Hid (Row (((w.alloc (.cells #[.int .i64 K, .int .i64 B, .int .i64 S, .int .i64 st, .int .i64 ra, .slice ta tn tc, .string tu] 24)).alloc (.cells #[.int .i64 W, .int .i64 H, .slice a n c] 26)).alloc (.cells #[.int .i64 0, .int .i64 0, .slice none 0 0] 26)) (w.heap.size + 1 + 1) 26 noPat) := hr3
  have HB : Hid (Below w.heap.size w (((w.alloc (.cells #[.int .i64 K, .int .i64 B, .int .i64 S, .int .i64 st, .int .i64 ra, .slice ta tn tc, .string tu] 24)).alloc (.cells #[.int .i64 W, .int .i64 H, .slice a n c] 26)).alloc (.cells #[.int .i64 0, .int .i64 0, .slice none 0 0] 26))) := hb2
  clear hr1 hr2 hr3 hb2
  generalize ((w.alloc (.cells #[.int .i64 K, .int .i64 B, .int .i64 S, .int .i64 st, .int .i64 ra, .slice ta tn tc, .string tu] 24)).alloc (.cells #[.int .i64 W, .int .i64 H, .slice a n c] 26)).alloc (.cells #[.int .i64 0, .int .i64 0, .slice none 0 0] 26) = w1 at *
  obtain ⟨ub, hub⟩ : ∃ ub, ub = w.heap.size := ⟨_, rfl⟩
  rw [← hub] at HU HP HR ⊢
  obtain ⟨pb, hpb⟩ : ∃ pb, pb = ub + 1 := ⟨_, rfl⟩
  rw [← hpb] at HP HR ⊢
  obtain ⟨rb, hrb⟩ : ∃ rb, rb = pb + 1 := ⟨_, rfl⟩
  rw [← hrb] at HR ⊢
  have HRB : Hid (w.heap.size ≤ rb ∧ pb ≠ rb) := Lib.hid (by omega)
  clear hub hpb hrb
  have l5 := row_range HU.out
  have l6 := row_range HP.out
  go_wp2_with (first | (refine wpList_load_mid rfl 24 _ rfl ub 0 rfl _ _ l5 Tryd.underlying24 rfl infoRule ?_) | (refine wpList_load_mid rfl 26 _ rfl pb 0 rfl _ _ l6 Tryd.underlying26 rfl infoPat ?_))
  refine (HK.out _ HB.out).mono ?_
  rintro e2 w2 ⟨rfl, hb2⟩
  have HU := Lib.hid (HU.out.keep hb2 HU.out.lt)
  have HP := Lib.hid (HP.out.keep hb2 HP.out.lt)
  have HR := Lib.hid (HR.out.keep hb2 HR.out.lt)
  have HB := Lib.hid (HB.out.trans (hb2.mono HB.out.size))
  clear l5 l6 hb2
  have p0 := HP.out.cell 0
  have p1 := HP.out.cell 1
  have p2 := HP.out.cell 2
  unfold boxP at p0 p1 p2
  have u0 := HU.out.cell 0
  have u1 := HU.out.cell 1
  have u2 := HU.out.cell 2
  have u3 := HU.out.cell 3
  have u4 := HU.out.cell 4
  have u5 := HU.out.cell 5
  have u6 := HU.out.cell 6
  unfold rulP at u0 u1 u2 u3 u4 u5 u6
  dsimp only [List.getElem?_cons_succ, List.getElem?_cons_zero] at p0 p1 p2 u0 u1 u2 u3 u4 u5 u6
  have wlo : ¬ (5 : Int) < (W : Int) := by have := HW5.out; omega
  have hlo : ¬ (5 : Int) < (H : Int) := by have := HH5.out; omega
  have aW := HAW.out
  have aW' := wr_same aW
  go_upto_region 7 with fail
  have HMN : Hid (MapOK (w2.alloc (.map #[] 0)) w2.heap.size 0 (badF (mkI B S f wd W) Q H)) := Lib.hid (MapOK.made w2 _)
  have hba : Below w2.heap.size w2 (w2.alloc (.map #[] 0)) := (Below.refl _ _).alloc (Nat.le_refl _) _
  have hbb : Below (w2.alloc (.map #[] 0)).heap.size (w2.alloc (.map #[] 0)) ((w2.alloc (.map #[] 0)).alloc (.cells #[.int .i64 K, .int .i64 B, .int .i64 S, .int .i64 st, .int .i64 ra, .slice ta tn tc, .string tu, .int .i64 W, .int .i64 H, .slice a n c, .int .i64 (wd : Nat), .map (some w2.heap.size)] 51)) := (Below.refl _ _).alloc (Nat.le_refl _) _
  have hrf : Row ((w2.alloc (.map #[] 0)).alloc (.cells #[.int .i64 K, .int .i64 B, .int .i64 S, .int .i64 st, .int .i64 ra, .slice ta tn tc, .string tu, .int .i64 W, .int .i64 H, .slice a n c, .int .i64 (wd : Nat), .map (some w2.heap.size)] 51)) (w2.alloc (.map #[] 0)).heap.size 51 (finP K B S st ra ta tn tc tu W H a n c wd (.map (some w2.heap.size))) := row_alloc _ _ _
  have HMB : Hid (w.heap.size ≤ w2.heap.size) := Lib.hid HB.out.size
  have hbc : Below w2.heap.size w2 ((w2.alloc (.map #[] 0)).alloc (.cells #[.int .i64 K, .int .i64 B, .int .i64 S, .int .i64 st, .int .i64 ra, .slice ta tn tc, .string tu, .int .i64 W, .int .i64 H, .slice a n c, .int .i64 (wd : Nat), .map (some w2.heap.size)] 51)) := hba.trans (hbb.mono hba.size)
  have HP := Lib.hid (HP.out.keep hbc HP.out.lt)
  have HR := Lib.hid (HR.out.keep hbc HR.out.lt)
  have HB := Lib.hid (HB.out.trans (hbc.mono HB.out.size))
  have HM := Lib.hid (HMN.out.below hbb)
  have HF := Lib.hid hrf
  clear hba hbb hbc hrf HMN HU p0 p1 p2 u0 u1 u2 u3 u4 u5 u6 wlo hlo aW aW'
  have esz : (w2.alloc (.map #[] 0)).heap.size = w2.heap.size + 1 := World.size_alloc _ _
  rw [esz] at HF
  have HM := Lib.hid HM.out
  generalize (w2.alloc (.map #[] 0)).alloc (.cells #[.int .i64 K, .int .i64 B, .int .i64 S, .int .i64 st, .int .i64 ra, .slice ta tn tc, .string tu, .int .i64 W, .int .i64 H, .slice a n c, .int .i64 (wd : Nat), .map (some w2.heap.size)] 51) = w3 at *
  clear esz
  obtain ⟨mb, hmb⟩ : ∃ mb, mb = w2.heap.size := ⟨_, rfl⟩
  rw [← hmb] at HF HM HMB ⊢
  obtain ⟨fb, hfb⟩ : ∃ fb, fb = mb + 1 := ⟨_, rfl⟩
  rw [← hfb] at HF ⊢
  clear hmb hfb
  have q10 := HF.out.cell 10
  unfold finP at q10
  dsimp only [List.getElem?_cons_succ, List.getElem?_cons_zero] at q10
  obtain ⟨sh1, sh2, sh3, hw64⟩ := shl_nums HQ.out HWD.out HW5.out
  go_wp2_with fail
  clear q10 sh1 sh2 sh3 hw64
  go_loopw [45] (fun u wr => ∃ x : Nat, x ≤ Q ∧ u = .int .i64 (x : Nat) ∧ (∀ x', x' < x → RowF (mkI B S f wd W) Q (H + 1) 1 0 x' none) ∧ Row wr fb 51 (finP K B S st ra ta tn tc tu W H a n c wd (.map (some mb))) ∧ Row wr pb 26 (boxP W H a n c) ∧ Row wr rb 26 noPat ∧ MapOK wr mb (x * (Q * wrt Q H)) (badF (mkI B S f wd W) Q H) ∧ Below w.heap.size w wr) (fun u _ => Q - (RowKit.intOf u).toNat)
  case atStart => exact ⟨0, Nat.zero_le _, rfl, fun x' h => absurd h (Nat.not_lt_zero _), HF.out, HP.out, HR.out, by rw [Nat.zero_mul]; exact HM.out, HB.out⟩
  case round =>
    clear HF HP HR HM HB
    obtain ⟨x, hx, rfl, hnx, hF, hP, hR, hM, hB⟩ := hrel
    have HNX := Lib.hid hnx
    clear hnx
    have HF := Lib.hid hF
    have HP := Lib.hid hP
    have HR := Lib.hid hR
    have HM := Lib.hid hM
    have HB := Lib.hid hB
    clear hF hP hR hM hB
    by_cases hxq : x < Q
    · have hxi : (x : Int) < (Q : Int) := by omega
      have HXQ := Lib.hid hxq
      have q10 := HF.out.cell 10
      unfold finP at q10
      dsimp only [List.getElem?_cons_succ, List.getElem?_cons_zero] at q10
      obtain ⟨sh1, sh2, sh3, hw64⟩ := shl_nums HQ.out HWD.out HW5.out
      clear hxq hx
      go_wp2_with fail
      clear q10 sh1 sh2 sh3 hw64 hxi
      go_loopw [53] (fun u wr => ∃ y : Nat, y ≤ Q ∧ u = .int .i64 (y : Nat) ∧ (∀ y', y' < y → RowF (mkI B S f wd W) Q H 2 x y' none) ∧ Row wr fb 51 (finP K B S st ra ta tn tc tu W H a n c wd (.map (some mb))) ∧ Row wr pb 26 (boxP W H a n c) ∧ Row wr rb 26 noPat ∧ MapOK wr mb (x * (Q * wrt Q H) + y * wrt Q H) (badF (mkI B S f wd W) Q H) ∧ Below w.heap.size w wr) (fun u _ => Q - (RowKit.intOf u).toNat)
      case atStart => exact ⟨0, Nat.zero_le _, rfl, fun x' h => absurd h (Nat.not_lt_zero _), HF.out, HP.out, HR.out, by rw [Nat.zero_mul, Nat.add_zero]; exact HM.out, HB.out⟩
      case round =>
        clear HF HP HR HM HB
        obtain ⟨y, hy, rfl, hny, hF, hP, hR, hM, hB⟩ := hrel
        have HNY := Lib.hid hny
        clear hny
        have HF := Lib.hid hF
        have HP := Lib.hid hP
        have HR := Lib.hid hR
        have HM := Lib.hid hM
        have HB := Lib.hid hB
        clear hF hP hR hM hB
        by_cases hyq : y < Q
        · have hyi : (y : Int) < (Q : Int) := by omega
          have HYQ := Lib.hid hyq
          have hal : Below wr.heap.size wr (wr.alloc (.cells #[.int .i64 (x : Nat), .int .i64 (y : Nat)] 3)) := (Below.refl _ _).alloc (Nat.le_refl _) _
          have HIS : Hid (Ints.Is (wr.alloc (.cells #[.int .i64 (x : Nat), .int .i64 (y : Nat)] 3)) (some ⟨wr.heap.size, 0, none⟩) 2 [(x : Int), (y : Int)]) := Lib.hid (is_row (row_alloc wr 3 [.int .i64 (x : Nat), .int .i64 (y : Nat)]) rfl (by unfold maxLen; omega))
          have HAL := Lib.hid hal
          clear hal hyq hy
          go_wp2_with fail
          clear hyi
          have HF := Lib.hid (HF.out.keep HAL.out HF.out.lt)
          have HP := Lib.hid (HP.out.keep HAL.out HP.out.lt)
          have HR := Lib.hid (HR.out.keep HAL.out HR.out.lt)
          have HM := Lib.hid (HM.out.below HAL.out)
          have HB := Lib.hid (HB.out.trans (HAL.out.mono HB.out.size))
          refine (HFN.out fb mb (some ⟨wr.heap.size, 0, none⟩) 2 [(x : Int), (y : Int)] x y (x * (Q * wrt Q H) + y * wrt Q H) _ (Nat.add_comm 2 H) (Nat.le_refl 2) HIS.out rfl rfl HXQ.out HYQ.out HF.out (HZ.out _ HB.out) HM.out (cap_le HQ8.out HH5.out HXQ.out HYQ.out)).mono ?_
          rintro e5 w5 hP5
          unfold FindP at hP5
          obtain ⟨hcase, hm5, hg5⟩ := hP5
          have HFM : Hid (fb ≠ mb ∧ pb ≠ mb ∧ rb ≠ mb) := Lib.hid ⟨HM.out.ne_row HF.out, HM.out.ne_row HP.out, HM.out.ne_row HR.out⟩
          have HB := Lib.hid (HB.out.trans (grown_below hg5 HMB.out HB.out.size))
          have HF := Lib.hid (row_keptM HF.out hg5 HFM.out.1)
          have HP := Lib.hid (row_keptM HP.out hg5 HFM.out.2.1)
          have HR := Lib.hid (row_keptM HR.out hg5 HFM.out.2.2)
          have HM := Lib.hid hm5
          clear hm5 hg5 HIS HAL HFM
          rcases hcase with ⟨rfl, hno⟩ | ⟨b5, o5, co5, s, he5, hyes, hi5⟩
          · have HNY1 : Hid (∀ y', y' < y + 1 → RowF (mkI B S f wd W) Q H 2 x y' none) := Lib.hid (fun y' hy' => by
              rcases Nat.lt_or_eq_of_le (Nat.le_of_lt_succ hy') with h | rfl
              · exact HNY.out y' h
              · exact hno)
            have HM := Lib.hid (HM.out.mono (Nat.le_of_eq (cnt_eq (x * (Q * wrt Q H)) y (wrt Q H))))
            clear hno HNY
            have hyq := HYQ.out
            have hq8 := HQ8.out
            go_wp2_with fail
            go_roundw
            case rel => exact ⟨y + 1, HYQ.out, by go_num, HNY1.out, HF.out, HP.out, HR.out, HM.out, HB.out⟩
            case measure => simp [RowKit.intOf]; omega
          · rw [← HH2.out.1] at he5
            subst he5
            have HS : Hid (RowF (mkI B S f wd W) Q (H + 1) 1 0 x (some (y * Q ^ H + s))) := Lib.hid (rowF_some HYQ.out (fun c' hc' _ => HNY.out c' hc') (fun h => by omega) hyes)
            obtain ⟨N, hN⟩ : ∃ N, N = x * Q ^ (H + 1) + (y * Q ^ H + s) := ⟨_, rfl⟩
            have HRN : Hid (RowF (mkI B S f wd W) Q (H + 2) 0 0 0 (some N)) := Lib.hid (by rw [hN]; exact rowF_some HXQ.out (fun c' hc' _ => HNX.out c' hc') (fun h => by omega) HS.out)
            have HI5 : Hid (Ints.Is w5 (some ⟨b5, o5, none⟩) h2 (rws Q h2 N)) := Lib.hid (by
              have e : rws Q (H + 2) N = [(x : Int), (y : Int)] ++ rws Q H s := by
                rw [hN, rws_next HS.out.1, rws_next hyes.1]
                rfl
              rw [HH2.out.1, e]
              exact hi5)
            have HRV : Hid (∀ t, t < h2 → (rws Q h2 N).getD t 0 = ((rowN Q h2 N t : Nat) : Int)) := Lib.hid (fun t ht => rws_get h2 N t ht (by rw [HH2.out.1]; exact HRN.out.1))
            obtain ⟨F, hF⟩ : ∃ F : Nat → Nat, F = fun j => bt N ((H + 2) * wd - 1 - j) := ⟨_, rfl⟩
            have HFE := Lib.hid hF
            have HFC : Hid (∀ t x', t < h2 → x' < wd → Pn.rb wd (rowN Q h2 N t) x' = F (t * wd + x')) := Lib.hid (fun t x' ht hx' => by
              rw [HFE.out, HH2.out.1]
              exact pa_cell HWD.out HQ.out (by rw [← HH2.out.1]; exact ht) hx')
            have HQP : Hid (0 < Q) := Lib.hid (by have := HXQ.out; omega)
            clear hyes hi5 HNY HNX HS hN hF HM
            have aH := HAH.out
            have aH' := wr_same aH
            go_upto_region 15 with fail
            have hdr : Below w5.heap.size w5 w5.drew := (Below.refl _ _).drew
            refine wp_region_noPanic ?_
            refine Rt.region_Cn (Sc2 (fun w2 => w2.cell? ⟨fb, 10, none⟩ = some (.int .i64 (wd : Nat)) ∧ w2.cell? ⟨pb, 1, none⟩ = some (.int .i64 H)) (fun w2 => True) 999) 10 #[false, false, false, false, false, false, false, false, false, false] (by kernel_rfl) (by kernel_rfl) (by kernel_rfl) ?_
            have hS1 : ∀ o, Sc2 (fun w2 => w2.cell? ⟨fb, 10, none⟩ = some (.int .i64 (wd : Nat)) ∧ w2.cell? ⟨pb, 1, none⟩ = some (.int .i64 H)) (fun w2 => True) 999 o w5.drew := Sc2.of ⟨(HF.out.keep hdr HF.out.lt).cell 10, (HP.out.keep hdr HP.out.lt).cell 1⟩ trivial
            refine Rt.C_take (none) (i := 0) (oi := _) (v := ?_) rfl (by kernel_rfl) (by kernel_rfl) (by kernel_rfl) (by kernel_rfl) (fun _ _ _ h => h) (Sc2.other (by decide)) (Or.inl ⟨by rfl, ?_⟩) (fun o' _ => hS1 o') ?_
            rotate_left
            · intro w2 hSw
              obtain ⟨s0, s1⟩ := hSw
              go_simp
              try with_reducible rfl
            simp only [Act.put, List.getElem_toArray, List.getElem_cons_succ, List.getElem_cons_zero, List.setIfInBounds_toArray, List.set_cons_zero, List.set_cons_succ]
            refine Rt.C_take (none) (i := 1) (oi := _) (v := ?_) rfl (by kernel_rfl) (by kernel_rfl) (by kernel_rfl) (by kernel_rfl) (fun _ _ _ h => h) (Sc2.other (by decide)) (Or.inl ⟨by rfl, ?_⟩) (fun o' _ => hS1 o') ?_
            rotate_left
            · intro w2 hSw
              obtain ⟨s0, s1⟩ := hSw
              go_simp
              try with_reducible rfl
            simp only [Act.put, List.getElem_toArray, List.getElem_cons_succ, List.getElem_cons_zero, List.setIfInBounds_toArray, List.set_cons_zero, List.set_cons_succ]
            refine Rt.C_take (none) (i := 2) (oi := _) (v := ?_) rfl (by kernel_rfl) (by kernel_rfl) (by kernel_rfl) (by kernel_rfl) (fun _ _ _ h => h) (Sc2.other (by decide)) (Or.inl ⟨by rfl, ?_⟩) (fun o' _ => hS1 o') ?_
            rotate_left
            · intro w2 hSw
              obtain ⟨s0, s1⟩ := hSw
              go_simp
              try with_reducible rfl
            simp only [Act.put, List.getElem_toArray, List.getElem_cons_succ, List.getElem_cons_zero, List.setIfInBounds_toArray, List.set_cons_zero, List.set_cons_succ]
            refine Rt.C_take (none) (i := 3) (oi := _) (v := ?_) rfl (by kernel_rfl) (by kernel_rfl) (by kernel_rfl) (by kernel_rfl) (fun _ _ _ h => h) (Sc2.other (by decide)) (Or.inl ⟨by rfl, ?_⟩) (fun o' _ => hS1 o') ?_
            rotate_left
            · intro w2 hSw
              obtain ⟨s0, s1⟩ := hSw
              go_simp
              try with_reducible rfl
            simp only [Act.put, List.getElem_toArray, List.getElem_cons_succ, List.getElem_cons_zero, List.setIfInBounds_toArray, List.set_cons_zero, List.set_cons_succ]
            refine Rt.C_take (none) (i := 4) (oi := _) (v := ?_) rfl (by kernel_rfl) (by kernel_rfl) (by kernel_rfl) (by kernel_rfl) (fun _ _ _ h => h) (Sc2.other (by decide)) (Or.inl ⟨by rfl, ?_⟩) (fun o' _ => hS1 o') ?_
            rotate_left
            · intro w2 hSw
              obtain ⟨s0, s1⟩ := hSw
              go_simp
              try with_reducible rfl
            simp only [Act.put, List.getElem_toArray, List.getElem_cons_succ, List.getElem_cons_zero, List.setIfInBounds_toArray, List.set_cons_zero, List.set_cons_succ]
            refine Rt.C_take (none) (i := 5) (oi := _) (v := ?_) rfl (by kernel_rfl) (by kernel_rfl) (by kernel_rfl) (by kernel_rfl) (fun _ _ _ h => h) (Sc2.other (by decide)) (Or.inl ⟨by rfl, ?_⟩) (fun o' _ => hS1 o') ?_
            rotate_left
            · intro w2 hSw
              obtain ⟨s0, s1⟩ := hSw
              go_simp
              try with_reducible rfl
            simp only [Act.put, List.getElem_toArray, List.getElem_cons_succ, List.getElem_cons_zero, List.setIfInBounds_toArray, List.set_cons_zero, List.set_cons_succ]
            refine Rt.C_take (none) (i := 6) (oi := _) (v := ?_) rfl (by kernel_rfl) (by kernel_rfl) (by kernel_rfl) (by kernel_rfl) (fun _ _ _ h => h) (Sc2.other (by decide)) (Or.inl ⟨by rfl, ?_⟩) (fun o' _ => hS1 o') ?_
            rotate_left
            · intro w2 hSw
              obtain ⟨s0, s1⟩ := hSw
              go_simp
              try with_reducible rfl
            simp only [Act.put, List.getElem_toArray, List.getElem_cons_succ, List.getElem_cons_zero, List.setIfInBounds_toArray, List.set_cons_zero, List.set_cons_succ]
            refine Rt.C_take (none) (i := 7) (oi := _) (v := ?_) rfl (by kernel_rfl) (by kernel_rfl) (by kernel_rfl) (by kernel_rfl) (fun _ _ _ h => h) (Sc2.other (by decide)) (Or.inl ⟨by rfl, ?_⟩) (fun o' _ => hS1 o') ?_
            rotate_left
            · intro w2 hSw
              obtain ⟨s0, s1⟩ := hSw
              go_simp
              try with_reducible rfl
            simp only [Act.put, List.getElem_toArray, List.getElem_cons_succ, List.getElem_cons_zero, List.setIfInBounds_toArray, List.set_cons_zero, List.set_cons_succ]
            clear hS1
            generalize w5.drew = v0 at *
            have hrq : Row (v0.alloc (.cells #[.int .i64 0, .int .i64 0, .slice none 0 0] 26)) v0.heap.size 26 noPat := row_alloc v0 _ noPat
            have hbq : Below w5.heap.size w5 (v0.alloc (.cells #[.int .i64 0, .int .i64 0, .slice none 0 0] 26)) := hdr.trans ((Below.refl _ _).alloc hdr.size _)
            have hks : w5.heap.size ≤ v0.heap.size := hdr.size
            clear hdr
            refine Rt.C_ready (rs := [8]) (by kernel_rfl) (by simp) ?_
            refine Rt.AllC.cons (i := 8) (o := _) rfl (by rfl) (fun K' hK => ?_) ?_
            · skip
              go_simp
              refine hK _ _ (fun o' _ => Sc2.of ⟨(HF.out.keep hbq HF.out.lt).cell 10, (HP.out.keep hbq HP.out.lt).cell 1⟩ trivial o') ?_
              clear hK K'
              simp only [Act.put, List.getElem_toArray, List.getElem_cons_succ, List.getElem_cons_zero, List.setIfInBounds_toArray, List.set_cons_zero, List.set_cons_succ]
              generalize v0.alloc (.cells #[.int .i64 0, .int .i64 0, .slice none 0 0] 26) = v1 at *
              generalize v0.heap.size = qb at *
              refine Rt.C_ready (rs := [9]) (by kernel_rfl) (by simp) ?_
              refine Rt.AllC.cons (i := 9) (o := _) rfl (by rfl) (fun K' hK => ?_) ?_
              · skip
                refine wp_store_arr 26 _ _ rfl qb (by rfl) 26 noPat (boxP (wd : Nat) (h2 : Nat) none 0 0) (by rfl) hrq rfl infoPat (boxP_one _ _ _ _ _) ?_
                intro w7 hr7 ho7
                have hb7 : Below w5.heap.size w5 w7 := hbq.trans (ho7.below hks)
                refine hK _ _ (fun o' _ => Sc2.of ⟨(HF.out.keep hb7 HF.out.lt).cell 10, (HP.out.keep hb7 HP.out.lt).cell 1⟩ trivial o') ?_
                clear hK K'
                simp only [Act.put, List.getElem_toArray, List.getElem_cons_succ, List.getElem_cons_zero, List.setIfInBounds_toArray, List.set_cons_zero, List.set_cons_succ]
                refine Rt.C_done (by kernel_rfl) ?_ _
                refine NoPanic.normal ?_
                have hfl := HF.out.lt
                have hpl := HP.out.lt
                have hrl := HR.out.lt
                have HT : Hid (TSt w5 w7 fb pb rb qb 51 26 26 (finP K B S st ra ta tn tc tu W H a n c wd (.map (some mb))) (boxP W H a n c) noPat (wd : Nat) (h2 : Nat) F (0 * wd) (.slice none 0 0)) := Lib.hid ⟨HF.out.keep hb7 hfl, HP.out.keep hb7 hpl, HR.out.keep hb7 hrl, hr7, by rw [Nat.zero_mul, lstN_zero]; exact own_nil _ _, hb7, ⟨hks, by omega, by omega, by omega⟩, ⟨by decide, by decide, by decide⟩⟩
                clear hbq hks hr7 ho7 hb7 hfl hpl hrl hrq HF HP HR
                go_wp2_with fail
                go_loopw [73] (fun u wr => ∃ t : Nat, ∃ vs : Value, t ≤ h2 ∧ u = .int .i64 (t : Nat) ∧ TSt w5 wr fb pb rb qb 51 26 26 (finP K B S st ra ta tn tc tu W H a n c wd (.map (some mb))) (boxP W H a n c) noPat (wd : Nat) (h2 : Nat) F (t * wd) vs) (fun u _ => h2 - (RowKit.intOf u).toNat)
                case atStart => exact ⟨0, _, Nat.zero_le _, rfl, HT.out⟩
                case round =>
                  clear HT
                  obtain ⟨t, vs, ht, rfl, hT⟩ := hrel
                  have HT := Lib.hid hT
                  clear hT
                  by_cases hth : t < h2
                  · have hti : (t : Int) < (h2 : Int) := by omega
                    have HTH := Lib.hid hth
                    obtain ⟨b6, o6, e6, _, cg⟩ := (HI5.out.keep HT.out.b).cells t hth
                    cases e6
                    dsimp only at cg
                    rw [HRV.out t hth] at cg
                    have hrv : rowN Q h2 N t < 128 := by
                      have h1 := HQ8.out
                      have h3 : rowN Q h2 N t < Q := Nat.mod_lt _ HQP.out
                      omega
                    have HCEL2 : Hid (∀ x', x' < wd → Pn.rb wd (rowN Q h2 N t) x' = F (t * wd + x')) := Lib.hid (fun x' hx' => HFC.out t x' HTH.out hx')
                    obtain ⟨rv, hrve⟩ : ∃ rv, rv = rowN Q h2 N t := ⟨_, rfl⟩
                    rw [← hrve] at cg hrv HCEL2
                    have HRV7 := Lib.hid hrv
                    have q10 := HT.out.u.cell 10
                    unfold finP at q10
                    dsimp only [List.getElem?_cons_succ, List.getElem?_cons_zero] at q10
                    clear hth hrv hrve ht
                    go_wp2_with fail
                    clear cg q10 hti
                    go_loopw [81] (fun u wr => ∃ x' : Nat, ∃ vs : Value, x' ≤ wd ∧ u = .int .i64 (x' : Nat) ∧ TSt w5 wr fb pb rb qb 51 26 26 (finP K B S st ra ta tn tc tu W H a n c wd (.map (some mb))) (boxP W H a n c) noPat (wd : Nat) (h2 : Nat) F (t * wd + x') vs) (fun u _ => wd - (RowKit.intOf u).toNat)
                    case atStart => exact ⟨0, _, Nat.zero_le _, rfl, by rw [Nat.add_zero]; exact HT.out⟩
                    case round =>
                      clear HT
                      obtain ⟨x', vs, hx', rfl, hT⟩ := hrel
                      have HT := Lib.hid hT
                      clear hT
                      by_cases hxw : x' < wd
                      · have hxi : (x' : Int) < (wd : Int) := by omega
                        have HXW := Lib.hid hxw
                        have HXN : Hid (wrap64 ((x' : Int) + 1) = ((x' + 1 : Nat) : Int) ∧ wd - (RowKit.intOf (.int .i64 ((x' + 1 : Nat) : Int))).toNat < wd - (RowKit.intOf (.int .i64 ((x' : Nat) : Int))).toNat) := Lib.hid ⟨wr_nat (by push_cast; rfl) (by have := HWD.out; have := HW5.out; omega), by
                          simp only [RowKit.intOf]
                          rw [Int.toNat_natCast, Int.toNat_natCast]
                          omega⟩
                        obtain ⟨k, hk⟩ : ∃ k, k = t * wd + x' := ⟨_, rfl⟩
                        have HK2 : Hid (k ≤ 1000000 ∧ t * wd + (x' + 1) = k + 1) := Lib.hid ⟨by
                          have h1 := at_lt hxw HTH.out
                          have h3 := HWD.out
                          have h4 := HW5.out
                          have h5 : wd * h2 ≤ 7 * 7 := Nat.mul_le_mul (by omega) HH2.out.2
                          omega, by omega⟩
                        obtain ⟨s1, s, cv, hcv, hm, a1, a2, b1⟩ := pa_nums HWD.out HW5.out hxw HRV7.out
                        have HFK : Hid (F k = cv) := Lib.hid (by rw [hcv, hk]; exact (HCEL2.out x' hxw).symm)
                        rw [← hk] at HT
                        have a1' := wr_same a1
                        have a2' := wr_same a2
                        have HTd := Lib.hid (HT.out.keep ((Below.refl _ _).drew : Below wr.heap.size wr wr.drew))
                        clear hk hcv hx' hxw HT
                        go_upto_region 22 with fail
                        clear hxi
                        refine wp_region_noPanic ?_
                        refine Rt.region_Cn (Sc2 (fun w2 => w2.cell? ⟨fb, 10, none⟩ = some (.int .i64 (wd : Nat)) ∧ True) (fun w2 => w2.cell? ⟨qb, 2, none⟩ = some vs) 15) 16 #[false, false, false, false, false, false, false, false, false, false, false, false, false, false, false, false] (by kernel_rfl) (by kernel_rfl) (by kernel_rfl) ?_
                        have hS1 : ∀ o, Sc2 (fun w2 => w2.cell? ⟨fb, 10, none⟩ = some (.int .i64 (wd : Nat)) ∧ True) (fun w2 => w2.cell? ⟨qb, 2, none⟩ = some vs) 15 o wr.drew := Sc2.of ⟨HTd.out.u.cell 10, trivial⟩ (HTd.out.q.cell 2)
                        refine Rt.C_take (none) (i := 0) (oi := _) (v := ?_) rfl (by kernel_rfl) (by kernel_rfl) (by kernel_rfl) (by kernel_rfl) (fun _ _ _ h => h) (Sc2.other (by decide)) (Or.inl ⟨by rfl, ?_⟩) (fun o' _ => hS1 o') ?_
                        rotate_left
                        · intro w2 hSw
                          obtain ⟨s0, s1⟩ := hSw
                          go_simp
                          try with_reducible rfl
                        simp only [Act.put, List.getElem_toArray, List.getElem_cons_succ, List.getElem_cons_zero, List.setIfInBounds_toArray, List.set_cons_zero, List.set_cons_succ]
                        refine Rt.C_take (some 15) (i := 1) (oi := _) (v := ?_) rfl (by kernel_rfl) (by kernel_rfl) (by kernel_rfl) (by kernel_rfl) (fun _ _ _ h => h) (Sc2.other (by decide)) (Or.inl ⟨by rfl, ?_⟩) (fun o' _ => hS1 o') ?_
                        rotate_left
                        · intro w2 hSw
                          have s0 := hSw rfl
                          go_simp
                          try with_reducible rfl
                        simp only [Act.put, List.getElem_toArray, List.getElem_cons_succ, List.getElem_cons_zero, List.setIfInBounds_toArray, List.set_cons_zero, List.set_cons_succ]
                        refine Rt.C_take (none) (i := 2) (oi := _) (v := ?_) rfl (by kernel_rfl) (by kernel_rfl) (by kernel_rfl) (by kernel_rfl) (fun _ _ _ h => h) (Sc2.other (by decide)) (Or.inl ⟨by rfl, ?_⟩) (fun o' _ => hS1 o') ?_
                        rotate_left
                        · intro w2 hSw
                          obtain ⟨s0, s1⟩ := hSw
                          go_simp
                          try with_reducible rfl
                        simp only [Act.put, List.getElem_toArray, List.getElem_cons_succ, List.getElem_cons_zero, List.setIfInBounds_toArray, List.set_cons_zero, List.set_cons_succ]
                        refine Rt.C_take (none) (i := 3) (oi := _) (v := ?_) rfl (by kernel_rfl) (by kernel_rfl) (by kernel_rfl) (by kernel_rfl) (fun _ _ _ h => h) (Sc2.other (by decide)) (Or.inl ⟨by rfl, ?_⟩) (fun o' _ => hS1 o') ?_
                        rotate_left
                        · intro w2 hSw
                          obtain ⟨s0, s1⟩ := hSw
                          go_simp
                          try with_reducible rfl
                        simp only [Act.put, List.getElem_toArray, List.getElem_cons_succ, List.getElem_cons_zero, List.setIfInBounds_toArray, List.set_cons_zero, List.set_cons_succ]
                        refine Rt.C_take (none) (i := 4) (oi := _) (v := ?_) rfl (by kernel_rfl) (by kernel_rfl) (by kernel_rfl) (by kernel_rfl) (fun _ _ _ h => h) (Sc2.other (by decide)) (Or.inl ⟨by rfl, ?_⟩) (fun o' _ => hS1 o') ?_
                        rotate_left
                        · intro w2 hSw
                          obtain ⟨s0, s1⟩ := hSw
                          go_simp
                          try with_reducible rfl
                        simp only [Act.put, List.getElem_toArray, List.getElem_cons_succ, List.getElem_cons_zero, List.setIfInBounds_toArray, List.set_cons_zero, List.set_cons_succ]
                        refine Rt.C_take (none) (i := 5) (oi := _) (v := ?_) rfl (by kernel_rfl) (by kernel_rfl) (by kernel_rfl) (by kernel_rfl) (fun _ _ _ h => h) (Sc2.other (by decide)) (Or.inl ⟨by rfl, ?_⟩) (fun o' _ => hS1 o') ?_
                        rotate_left
                        · intro w2 hSw
                          obtain ⟨s0, s1⟩ := hSw
                          go_simp
                          try with_reducible rfl
                        simp only [Act.put, List.getElem_toArray, List.getElem_cons_succ, List.getElem_cons_zero, List.setIfInBounds_toArray, List.set_cons_zero, List.set_cons_succ]
                        refine Rt.C_take (none) (i := 6) (oi := _) (v := ?_) rfl (by kernel_rfl) (by kernel_rfl) (by kernel_rfl) (by kernel_rfl) (fun _ _ _ h => h) (Sc2.other (by decide)) (Or.inl ⟨by rfl, ?_⟩) (fun o' _ => hS1 o') ?_
                        rotate_left
                        · intro w2 hSw
                          obtain ⟨s0, s1⟩ := hSw
                          go_simp
                          try with_reducible rfl
                        simp only [Act.put, List.getElem_toArray, List.getElem_cons_succ, List.getElem_cons_zero, List.setIfInBounds_toArray, List.set_cons_zero, List.set_cons_succ]
                        refine Rt.C_take (none) (i := 7) (oi := _) (v := ?_) rfl (by kernel_rfl) (by kernel_rfl) (by kernel_rfl) (by kernel_rfl) (fun _ _ _ h => h) (Sc2.other (by decide)) (Or.inl ⟨by rfl, ?_⟩) (fun o' _ => hS1 o') ?_
                        rotate_left
                        · intro w2 hSw
                          obtain ⟨s0, s1⟩ := hSw
                          go_simp
                          try with_reducible rfl
                        simp only [Act.put, List.getElem_toArray, List.getElem_cons_succ, List.getElem_cons_zero, List.setIfInBounds_toArray, List.set_cons_zero, List.set_cons_succ]
                        refine Rt.C_take (none) (i := 8) (oi := _) (v := ?_) rfl (by kernel_rfl) (by kernel_rfl) (by kernel_rfl) (by kernel_rfl) (fun _ _ _ h => h) (Sc2.other (by decide)) (Or.inl ⟨by rfl, ?_⟩) (fun o' _ => hS1 o') ?_
                        rotate_left
                        · intro w2 hSw
                          obtain ⟨s0, s1⟩ := hSw
                          go_simp
                          try with_reducible rfl
                        simp only [Act.put, List.getElem_toArray, List.getElem_cons_succ, List.getElem_cons_zero, List.setIfInBounds_toArray, List.set_cons_zero, List.set_cons_succ]
                        refine Rt.C_take (none) (i := 9) (oi := _) (v := ?_) rfl (by kernel_rfl) (by kernel_rfl) (by kernel_rfl) (by kernel_rfl) (fun _ _ _ h => h) (Sc2.other (by decide)) (Or.inl ⟨by rfl, ?_⟩) (fun o' _ => hS1 o') ?_
                        rotate_left
                        · intro w2 hSw
                          obtain ⟨s0, s1⟩ := hSw
                          go_simp
                          try with_reducible rfl
                        simp only [Act.put, List.getElem_toArray, List.getElem_cons_succ, List.getElem_cons_zero, List.setIfInBounds_toArray, List.set_cons_zero, List.set_cons_succ]
                        refine Rt.C_take (none) (i := 10) (oi := _) (v := ?_) rfl (by kernel_rfl) (by kernel_rfl) (by kernel_rfl) (by kernel_rfl) (fun _ _ _ h => h) (Sc2.other (by decide)) (Or.inl ⟨by rfl, ?_⟩) (fun o' _ => hS1 o') ?_
                        rotate_left
                        · intro w2 hSw
                          obtain ⟨s0, s1⟩ := hSw
                          go_simp
                          try with_reducible rfl
                        simp only [Act.put, List.getElem_toArray, List.getElem_cons_succ, List.getElem_cons_zero, List.setIfInBounds_toArray, List.set_cons_zero, List.set_cons_succ]
                        refine Rt.C_take (none) (i := 11) (oi := _) (v := ?_) rfl (by kernel_rfl) (by kernel_rfl) (by kernel_rfl) (by kernel_rfl) (fun _ _ _ h => h) (Sc2.other (by decide)) (Or.inl ⟨by rfl, ?_⟩) (fun o' _ => hS1 o') ?_
                        rotate_left
                        · intro w2 hSw
                          obtain ⟨s0, s1⟩ := hSw
                          go_simp
                          try with_reducible rfl
                        simp only [Act.put, List.getElem_toArray, List.getElem_cons_succ, List.getElem_cons_zero, List.setIfInBounds_toArray, List.set_cons_zero, List.set_cons_succ]
                        clear hS1
                        refine Rt.C_ready (rs := [12]) (by kernel_rfl) (by simp) ?_
                        refine Rt.AllC.cons (i := 12) (o := _) rfl (by rfl) (fun K' hK => ?_) ?_
                        · skip
                          have hnew := row_alloc wr.drew 3 [.int .i64 (cv : Nat)]
                          have hbn : Below wr.drew.heap.size wr.drew (wr.drew.alloc (.cells [.int .i64 (cv : Nat)].toArray 3)) := (Below.refl _ _).alloc (Nat.le_refl _) _
                          have HTa := Lib.hid (HTd.out.keep hbn)
                          have HCEL := Lib.hid (hnew.cell 0)
                          clear hnew hbn HTd
                          go_simp
                          refine hK _ _ (fun o _ => Sc2.of ⟨HTa.out.u.cell 10, trivial⟩ (HTa.out.q.cell 2) o) ?_
                          clear hK K'
                          simp only [Act.put, List.getElem_toArray, List.getElem_cons_succ, List.getElem_cons_zero, List.setIfInBounds_toArray, List.set_cons_zero, List.set_cons_succ]
                          refine Rt.C_ready (rs := [13]) (by kernel_rfl) (by simp) ?_
                          refine Rt.AllC.cons (i := 13) (o := _) rfl (by rfl) (fun K' hK => ?_) ?_
                          · skip
                            refine wp_app_ints _ _ rfl w5.heap.size vs k (lstN k F) (by rfl) HTa.out.o wr.drew.heap.size 0 1 1 [(cv : Int)] (by rfl) rfl ?c1 HK2.out.1 (by decide) (by decide) HTa.out.b.size ?_
                            case c1 =>
                              intro j' hj'
                              obtain rfl : j' = 0 := by omega
                              exact HCEL.out
                            intro g7 c7 w7 ho7 hg7
                            rw [List.map_append] at ho7
                            have HPU := Lib.hid (HTa.out.push hg7 ho7 HFK.out)
                            have HM7 : Hid (Row w7 fb 51 (finP K B S st ra ta tn tc tu W H a n c wd (.map (some mb))) ∧ Row w7 qb 26 [.int .i64 (wd : Nat), .int .i64 (h2 : Nat), vs]) := Lib.hid ⟨row_grown HTa.out.o hg7 HTa.out.u HTa.out.ty.1, (HTa.out.after hg7).2.1⟩
                            clear ho7 hg7 HTa HCEL
                            refine hK _ _ (fun o _ => Sc2.of ⟨HM7.out.1.cell 10, trivial⟩ (HM7.out.2.cell 2) o) ?_
                            clear hK K'
                            simp only [Act.put, List.getElem_toArray, List.getElem_cons_succ, List.getElem_cons_zero, List.setIfInBounds_toArray, List.set_cons_zero, List.set_cons_succ]
                            refine Rt.C_take (none) (i := 14) (oi := _) (v := ?_) rfl (by kernel_rfl) (by kernel_rfl) (by kernel_rfl) (by kernel_rfl) (fun _ _ _ h => h) (Sc2.other (by decide)) (Or.inl ⟨by rfl, ?_⟩) (fun o _ => Sc2.of ⟨HM7.out.1.cell 10, trivial⟩ (HM7.out.2.cell 2) o) ?_
                            rotate_left
                            · intro w2 hSw
                              obtain ⟨s0, s1⟩ := hSw
                              go_simp
                              try with_reducible rfl
                            simp only [Act.put, List.getElem_toArray, List.getElem_cons_succ, List.getElem_cons_zero, List.setIfInBounds_toArray, List.set_cons_zero, List.set_cons_succ]
                            refine Rt.C_ready (rs := [15]) (by kernel_rfl) (by simp) ?_
                            refine Rt.AllC.cons (i := 15) (o := _) rfl (by rfl) (fun K' hK => ?_) ?_
                            · skip
                              have c2 := HM7.out.2.cell 2
                              have z2 := HM7.out.2.frozen 2
                              dsimp only [List.getElem?_cons_succ, List.getElem?_cons_zero] at c2
                              go_simp
                              refine hK _ _ (fun o hl => Sc2.late ⟨HPU.out.u.cell 10, trivial⟩ (by rfl) o hl) ?_
                              clear hK K'
                              simp only [Act.put, List.getElem_toArray, List.getElem_cons_succ, List.getElem_cons_zero, List.setIfInBounds_toArray, List.set_cons_zero, List.set_cons_succ]
                              refine Rt.C_done (by kernel_rfl) ?_ _
                              refine NoPanic.normal ?_
                              clear c2 z2 HM7
                              generalize w7.setCell ⟨qb, 2, none⟩ (.slice (some ⟨g7, 0, none⟩) (k + 1) c7) = w9 at *
                              have hxn := HXN.out.1
                              have hxn' := wr_same hxn
                              go_wp2_with fail
                              go_roundw
                              case rel => exact ⟨x' + 1, _, HXW.out, rfl, by rw [HK2.out.2]; exact HPU.out⟩
                              case measure => exact HXN.out.2
                            exact Rt.AllC.nil
                          exact Rt.AllC.nil
                        exact Rt.AllC.nil
                      · obtain rfl : x' = wd := by omega
                        have hne : ¬ (x' : Int) < (x' : Int) := by omega
                        have htn : wrap64 ((t : Int) + 1) = ((t + 1 : Nat) : Int) := wr_nat (by push_cast; rfl) (by have := HTH.out; have := HH2.out; omega)
                        have htn' := wr_same htn
                        have HTM : Hid (h2 - (RowKit.intOf (.int .i64 ((t + 1 : Nat) : Int))).toNat < h2 - (RowKit.intOf (.int .i64 ((t : Nat) : Int))).toNat) := Lib.hid (by
                          have := HTH.out
                          simp only [RowKit.intOf]
                          rw [Int.toNat_natCast, Int.toNat_natCast]
                          clear htn htn' hne
                          omega)
                        clear hx' hxw
                        go_wp2_with fail
                        go_roundw
                        case rel => exact ⟨t + 1, _, HTH.out, rfl, by rw [Nat.succ_mul]; exact HT.out⟩
                        case measure => exact HTM.out
                  · obtain rfl : t = h2 := by omega
                    have hne : ¬ (t : Int) < (t : Int) := by omega
                    obtain ⟨m, hm⟩ : ∃ m, m = t * wd := ⟨_, rfl⟩
                    have ht2 := HT.out
                    rw [← hm] at ht2
                    have HME : Hid (m = (H + 2) * wd) := Lib.hid (by rw [hm, HH2.out.1])
                    obtain ⟨av, cv, hve, hvn, hvm, hvi, hvb⟩ := own_is ht2.o
                    subst hve
                    have l5 := row_range ht2.q
                    have HX := Lib.hid ht2
                    have HRC := Lib.hid hvn
                    clear hvn hvm hvi hvb ht2 HT hm hth ht
                    go_wp2_with (first | (refine wpList_load_mid rfl 26 _ rfl qb 0 rfl _ _ l5 Tryd.underlying26 rfl infoPat ?_) | (refine Ops.wpList_store_arr rfl 26 _ _ rfl rb rfl 26 _ _ rfl HX.out.r rfl infoPat (boxP_one _ _ _ _ _) ?_; intro w8 hrow5 hon5))
                    obtain ⟨av', cv', hve, hvn, hvm, hvi, hvb⟩ := own_is (own_only HX.out.o hon5 (own_ne HX.out.o HX.out.r (by decide)))
                    cases hve
                    refine bodyPost_ret (results_pat (t := 4) (u := 5) (e := .nilIface) rfl _ _ hrow5 rfl rfl rfl) rfl ⟨.inr ⟨av, cv, by rw [show (t : Int) = (H : Int) + 2 by have := HH2.out.1; omega, HME.out], N, HRN.out, ?_, by rw [← HME.out]; exact HRC.out⟩, HB.out.trans ((HX.out.b.mono HB.out.size).trans (hon5.below HRB.out.1))⟩
                    rw [← HME.out]
                    have hfl : lstN m F = cellsN m N := by rw [HFE.out, HME.out]; rfl
                    rw [← hfl]
                    exact hvi
              exact Rt.AllC.nil
            exact Rt.AllC.nil
        · obtain rfl : y = Q := by omega
          have hne : ¬ (y : Int) < (y : Int) := by omega
          have HNX1 : Hid (∀ x', x' < x + 1 → RowF (mkI B S f wd W) y (H + 1) 1 0 x' none) := Lib.hid (fun x' hx' => by
            rcases Nat.lt_or_eq_of_le (Nat.le_of_lt_succ hx') with h | rfl
            · exact HNX.out x' h
            · exact rowF_none (fun c' hc' _ => HNY.out c' hc'))
          have HM := Lib.hid (HM.out.mono (Nat.le_of_eq (show x * (y * wrt y H) + y * wrt y H = (x + 1) * (y * wrt y H) by rw [Nat.add_mul, Nat.one_mul])))
          clear hyq hy HNX HNY
          have hxq := HXQ.out
          have hq8 := HQ8.out
          go_wp2_with fail
          go_roundw
          case rel => exact ⟨x + 1, HXQ.out, by go_num, HNX1.out, HF.out, HP.out, HR.out, HM.out, HB.out⟩
          case measure => simp [RowKit.intOf]; omega
    · obtain rfl : x = Q := by omega
      have hne : ¬ (x : Int) < (x : Int) := by omega
      have HNO : Hid (RowF (mkI B S f wd W) x (H + 2) 0 0 0 none) := Lib.hid (rowF_none (fun c' hc' _ => HNX.out c' hc'))
      clear hxq hx
      go_wp2_with (refine Ops.wpList_store_arr rfl 26 _ _ rfl rb rfl 26 _ noPat rfl HR.out rfl infoPat noPat_one ?_; intro w5 hrow5 hon5)
      exact bodyPost_ret (results_pat (t := 4) (u := 5) (e := errV 5) rfl _ _ hrow5 rfl rfl rfl) rfl ⟨.inl ⟨rfl, HNO.out⟩, HB.out.trans (hon5.below HRB.out.1)⟩
end Pn
end Go.Proofs.YthipeeagpllfeaaDoor
