/- WALK: rules.Check of any rule; plane.check, plane.Torus, pattern.Turn. -/
import Derived.Test.YthipeeagpllfeaaDoorPnR
import Derived.Test.YthipeeagpllfeaaDoorRkC
namespace Go.Proofs.YthipeeagpllfeaaDoor
set_option linter.unusedSimpArgs false
set_option linter.unusedVariables false
open Go.RowKit
namespace Pn
open Tld Mem Bl

theorem infoRule : (Tryd.prog.info? 24).map (·.size) = some 7 := by kernel_rfl
/-- What is wrong with a rule. -/
noncomputable def rulf (K B S st ra : Int) (tn : Nat) (tz : List Int) (tu : ByteArray) : Int := if K = 2 then Ln.lfault 2 B S st ra tz tu else Ln.ofault K B S st ra tn tu
theorem rcheck_any (K B S st ra : Int) (ta : Option Addr) (tn tc : Nat) (tz : List Int) (tu : ByteArray) (w : World) (hT : Ints.Is w ta tn tz) (hu : tu.size ≤ 9223372036854775807) :
    Calls Tryd.prog 25 #[.agg #[.int .i64 K, .int .i64 B, .int .i64 S, .int .i64 st, .int .i64 ra, .slice ta tn tc, .string tu]] w fun e w' => e = .returned (errV (rulf K B S st ra tn tz tu)) ∧ Below w.heap.size w w' := by
  by_cases h : K = 2
  · subst h
    exact Ln.rcheck_line B S st ra ta tn tc tz tu w hT hu
  · unfold rulf
    rw [if_neg h]
    exact Ln.rcheck_other K B S st ra ta tn tc tz tu w hT hu h
/-- What is wrong with a rule and a pattern. -/
noncomputable def plf (K B S st ra : Int) (tn : Nat) (tz : List Int) (tu : ByteArray) (W H : Int) (zs : List Int) : Int :=
  if rulf K B S st ra tn tz tu ≠ 0 then rulf K B S st ra tn tz tu else if pfault W H zs ≠ 0 then pfault W H zs else if K ≠ 1 then 1 else 0
theorem plf_zero {K B S st ra : Int} {tn : Nat} {tz : List Int} {tu : ByteArray} {W H : Int} {zs : List Int} (h : plf K B S st ra tn tz tu W H zs = 0) : K = 1 ∧ Ln.OkL B S st ra tn tu ∧ pfault W H zs = 0 := by
  unfold plf at h
  by_cases h1 : rulf K B S st ra tn tz tu = 0
  · rw [if_neg (fun x => x h1)] at h
    by_cases h2 : pfault W H zs = 0
    · rw [if_neg (fun x => x h2)] at h
      by_cases h3 : K = 1
      · subst h3
        unfold rulf at h1
        rw [if_neg (by decide)] at h1
        exact ⟨rfl, Ln.ofault_life h1, h2⟩
      · rw [if_pos h3] at h; cases h
    · rw [if_pos h2] at h; exact absurd h h2
  · rw [if_pos h1] at h; exact absurd h h1
theorem pfault_zero {W H : Int} {zs : List Int} (h : pfault W H zs = 0) : ∃ W' H' : Nat, W = W' ∧ H = H' ∧ W' ≤ 100 ∧ H' ≤ 100 ∧ zs.length = W' * H' ∧ zs = flat W' H' (cel zs W') ∧ ∀ x y, cel zs W' x y < 2 := by
  unfold pfault at h
  by_cases h1 : okSides W H
  · rw [if_neg (fun x => x h1)] at h
    unfold okSides at h1
    by_cases h2 : (zs.length : Int) = W * H
    · rw [if_neg (fun x => x h2)] at h
      by_cases h3 : zs.any cbad = true
      · rw [if_pos h3] at h; cases h
      · obtain ⟨W', rfl⟩ := Int.eq_ofNat_of_zero_le (show 0 ≤ W by omega)
        obtain ⟨H', rfl⟩ := Int.eq_ofNat_of_zero_le (show 0 ≤ H by omega)
        have hl : zs.length = W' * H' := by exact_mod_cast h2
        have h01 : ∀ z ∈ zs, z = 0 ∨ z = 1 := fun z hz => by
          have h4 : cbad z = false := by
            rw [Bool.not_eq_true, List.any_eq_false] at h3
            exact Bool.eq_false_iff.2 (h3 z hz)
          unfold cbad at h4
          simp at h4
          omega
        exact ⟨W', H', rfl, rfl, by omega, by omega, hl, (flat_cel hl h01).symm, fun x y => cel_lt h01 x y⟩
    · rw [if_pos h2] at h; cases h
  · rw [if_pos h1] at h; cases h
theorem bits_nat {z : Int} (h : Ln.bitsB z = true) : ∃ n : Nat, z = n ∧ n < 512 := by
  have h1 := Ln.bitsB_iff.1 h
  obtain ⟨n, rfl⟩ := Int.eq_ofNat_of_zero_le h1.1
  exact ⟨n, rfl, by omega⟩

set_option maxHeartbeats 8000000 in
set_option maxRecDepth 1000000 in
theorem check_any (K B S st ra : Int) (ta : Option Addr) (tn tc : Nat) (tz : List Int) (tu : ByteArray) (W H : Int) (a : Option Addr) (n c : Nat) (zs : List Int) (w : World) (hT : Ints.Is w ta tn tz) (hu : tu.size ≤ 9223372036854775807) (hZ : Ints.Is w a n zs) :
    Calls Tryd.prog 16 #[.agg #[.int .i64 K, .int .i64 B, .int .i64 S, .int .i64 st, .int .i64 ra, .slice ta tn tc, .string tu], .agg #[.int .i64 W, .int .i64 H, .slice a n c]] w fun e w' => e = .returned (errV (plf K B S st ra tn tz tu W H zs)) ∧ Below w.heap.size w w' := by
  have HRK := Lib.hid (fun w2 (h : Below w.heap.size w w2) => rcheck_any K B S st ra ta tn tc tz tu w2 (hT.keep h) hu)
  have HPK := Lib.hid (fun w2 (h : Below w.heap.size w w2) => pcheck_any W H a n c zs w2 hZ.len (by have := hZ.le; unfold maxLen at this; omega) (hZ.keep h).cells)
  obtain ⟨e1, he1⟩ : ∃ e1, e1 = rulf K B S st ra tn tz tu := ⟨_, rfl⟩
  obtain ⟨e2, he2⟩ : ∃ e2, e2 = pfault W H zs := ⟨_, rfl⟩
  have HPF : Hid (plf K B S st ra tn tz tu W H zs = if e1 ≠ 0 then e1 else if e2 ≠ 0 then e2 else if K ≠ 1 then 1 else 0) := Lib.hid (by rw [he1, he2]; rfl)
  rw [← he1] at HRK
  rw [← he2] at HPK
  clear hT hu hZ he1 he2
  unfold pat at HPK
  go_enter Tryd.func16, Tryd.ntmps16
  go_upto_region 1 with fail
  obtain ⟨hr1, hr2, hb2⟩ := two_new w 24 26 (rulP K B S st ra ta tn tc tu) (boxP W H a n c)
  have HU : Hid (Row ((w.alloc (.cells #[.int .i64 K, .int .i64 B, .int .i64 S, .int .i64 st, .int .i64 ra, .slice ta tn tc, .string tu] 24)).alloc (.cells #[.int .i64 W, .int .i64 H, .slice a n c] 26)) w.heap.size 24 (rulP K B S st ra ta tn tc tu)) := hr1
  have HP : Hid (Row ((w.alloc (.cells #[.int .i64 K, .int .i64 B, .int .i64 S, .int .i64 st, .int .i64 ra, .slice ta tn tc, .string tu] 24)).alloc (.cells #[.int .i64 W, .int .i64 H, .slice a n c] 26)) (w.heap.size + 1) 26 (boxP W H a n c)) := hr2
  have HB : Hid (Below w.heap.size w ((w.alloc (.cells #[.int .i64 K, .int .i64 B, .int .i64 S, .int .i64 st, .int .i64 ra, .slice ta tn tc, .string tu] 24)).alloc (.cells #[.int .i64 W, .int .i64 H, .slice a n c] 26))) := hb2
  clear hr1 hr2 hb2
  generalize (w.alloc (.cells #[.int .i64 K, .int .i64 B, .int .i64 S, .int .i64 st, .int .i64 ra, .slice ta tn tc, .string tu] 24)).alloc (.cells #[.int .i64 W, .int .i64 H, .slice a n c] 26) = w1 at *
  obtain ⟨ub, hub⟩ : ∃ ub, ub = w.heap.size := ⟨_, rfl⟩
  rw [← hub] at HU HP ⊢
  obtain ⟨pb, hpb⟩ : ∃ pb, pb = ub + 1 := ⟨_, rfl⟩
  rw [← hpb] at HP ⊢
  clear hub hpb
  have l5 := row_range HU.out
  go_wp2_with (refine wpList_load_mid rfl 24 _ rfl ub 0 rfl _ _ l5 Tryd.underlying24 rfl infoRule ?_)
  refine (HRK.out _ HB.out).mono ?_
  rintro e3 w2 ⟨rfl, hb2⟩
  have HU := Lib.hid (HU.out.keep hb2 HU.out.lt)
  have HP := Lib.hid (HP.out.keep hb2 HP.out.lt)
  have HB := Lib.hid (HB.out.trans (hb2.mono HB.out.size))
  clear l5 hb2
  by_cases h1 : e1 = 0
  · rw [errV_zero h1]
    have l5 := row_range HP.out
    go_wp2_with (refine wpList_load_mid rfl 26 _ rfl pb 0 rfl _ _ l5 Tryd.underlying26 rfl infoPat ?_)
    refine (HPK.out _ HB.out).mono ?_
    rintro e4 w3 ⟨rfl, hb3⟩
    have HU := Lib.hid (HU.out.keep hb3 HU.out.lt)
    have HB := Lib.hid (HB.out.trans (hb3.mono HB.out.size))
    clear l5 hb3
    have f0 := HU.out.cell 0
    unfold rulP at f0
    dsimp only [List.getElem?_cons_zero] at f0
    by_cases h2 : e2 = 0
    · rw [errV_zero h2]
      by_cases h3 : K = 1
      · have hk : (K != 1) = false := by rw [h3]; rfl
        have HV : Hid (plf K B S st ra tn tz tu W H zs = 0) := Lib.hid (by rw [HPF.out, if_neg (fun x => x h1), if_neg (fun x => x h2), if_neg (fun x => x h3)])
        clear h1 h2 h3
        go_wp2_with fail
        go_ret
        exact ⟨by rw [HV.out]; rfl, HB.out⟩
      · have hk : (K != 1) = true := by rw [bne_iff_ne]; exact h3
        have HV : Hid (plf K B S st ra tn tz tu W H zs = 1) := Lib.hid (by rw [HPF.out, if_neg (fun x => x h1), if_neg (fun x => x h2), if_pos h3])
        clear h1 h2 h3
        go_wp2_with fail
        go_ret
        exact ⟨by rw [HV.out]; rfl, HB.out⟩
    · have HV : Hid (plf K B S st ra tn tz tu W H zs = e2) := Lib.hid (by rw [HPF.out, if_neg (fun x => x h1), if_pos h2])
      have HVE : Hid (errV e2 = .iface 47 (.int .i64 e2)) := Lib.hid (errV_some h2)
      rw [errV_some h2]
      clear h1 h2
      go_wp2_with fail
      go_ret
      exact ⟨by rw [HV.out, HVE.out]; rfl, HB.out⟩
  · have HV : Hid (plf K B S st ra tn tz tu W H zs = e1) := Lib.hid (by rw [HPF.out, if_pos h1])
    have HVE : Hid (errV e1 = .iface 47 (.int .i64 e1)) := Lib.hid (errV_some h1)
    rw [errV_some h1]
    clear h1
    go_wp2_with fail
    go_ret
    exact ⟨by rw [HV.out, HVE.out]; rfl, HB.out⟩

set_option maxHeartbeats 8000000 in
set_option maxRecDepth 1000000 in
theorem Torus_bad (K B S st ra : Int) (ta : Option Addr) (tn tc : Nat) (tz : List Int) (tu : ByteArray) (W H : Int) (a : Option Addr) (n c : Nat) (zs : List Int) (w : World) (hT : Ints.Is w ta tn tz) (hu : tu.size ≤ 9223372036854775807) (hZ : Ints.Is w a n zs) (hf : plf K B S st ra tn tz tu W H zs ≠ 0) :
    Calls Tryd.prog 13 #[.agg #[.int .i64 K, .int .i64 B, .int .i64 S, .int .i64 st, .int .i64 ra, .slice ta tn tc, .string tu], .agg #[.int .i64 W, .int .i64 H, .slice a n c]] w fun e w' => e = .returned (.tuple #[.agg #[.int .i64 0, .int .i64 0, .slice none 0 0], errV (plf K B S st ra tn tz tu W H zs)]) ∧ Below w.heap.size w w' := by
  have HK := Lib.hid (fun w2 (h : Below w.heap.size w w2) => check_any K B S st ra ta tn tc tz tu W H a n c zs w2 (hT.keep h) hu (hZ.keep h))
  generalize plf K B S st ra tn tz tu W H zs = ev at *
  have HE := Lib.hid (errV_some hf)
  rw [HE.out] at HK ⊢
  clear hT hu hZ hf
  go_enter Tryd.func13, Tryd.ntmps13
  go_upto_region 1 with fail
  obtain ⟨hr1, hr2, hr3, hb2⟩ := three_new w 24 26 26 (rulP K B S st ra ta tn tc tu) (boxP W H a n c) noPat
  have HU : Hid (Row (((w.alloc (.cells #[.int .i64 K, .int .i64 B, .int .i64 S, .int .i64 st, .int .i64 ra, .slice ta tn tc, .string tu] 24)).alloc (.cells #[.int .i64 W, .int .i64 H, .slice a n c] 26)).alloc (.cells #[.int .i64 0, .int .i64 0, .slice none 0 0] 26)) w.heap.size 24 (rulP K B S st ra ta tn tc tu)) := hr1
  have HP : Hid (Row (((w.alloc (.cells #[.int .i64 K, .int .i64 B, .int .i64 S, .int .i64 st, .int .i64 ra, .slice ta tn tc, .string tu] 24)).alloc (.cells #[.int .i64 W, .int .i64 H, .slice a n c] 26)).alloc (.cells #[.int .i64 0, .int .i64 0, .slice none 0 0] 26)) (w.heap.size + 1) 26 (boxP W H a n c)) := hr2
  have HR : Hid (Row (((w.alloc (.cells #[.int .i64 K, .int .i64 B, .int .i64 S, .int .i64 st, .int .i64 ra, .slice ta tn tc, .string tu] 24)).alloc (.cells #[.int .i64 W, .int .i64 H, .slice a n c] 26)).alloc (.cells #[.int .i64 0, .int .i64 0, .slice none 0 0] 26)) (w.heap.size + 1 + 1) 26 noPat) := hr3
  have HB : Hid (Below w.heap.size w (((w.alloc (.cells #[.int .i64 K, .int .i64 B, .int .i64 S, .int .i64 st, .int .i64 ra, .slice ta tn tc, .string tu] 24)).alloc (.cells #[.int .i64 W, .int .i64 H, .slice a n c] 26)).alloc (.cells #[.int .i64 0, .int .i64 0, .slice none 0 0] 26))) := hb2
  clear hr1 hr2 hr3 hb2
  generalize ((w.alloc (.cells #[.int .i64 K, .int .i64 B, .int .i64 S, .int .i64 st, .int .i64 ra, .slice ta tn tc, .string tu] 24)).alloc (.cells #[.int .i64 W, .int .i64 H, .slice a n c] 26)).alloc (.cells #[.int .i64 0, .int .i64 0, .slice none 0 0] 26) = w1 at *
  obtain ⟨ub, hub⟩ : ∃ ub, ub = w.heap.size := ⟨_, rfl⟩
  rw [← hub] at HU HP HR ⊢
  obtain ⟨pb, hpb⟩ : ∃ pb, pb = ub + 1 := ⟨_, rfl⟩
  rw [← hpb] at HP HR ⊢
  obtain ⟨rb, hrb⟩ : ∃ rb, rb = pb + 1 := ⟨_, rfl⟩
  rw [← hrb] at HR ⊢
  have HRB : Hid (w.heap.size ≤ rb) := Lib.hid (by omega)
  clear hub hpb hrb
  have l5 := row_range HU.out
  have l6 := row_range HP.out
  go_wp2_with (first | (refine wpList_load_mid rfl 24 _ rfl ub 0 rfl _ _ l5 Tryd.underlying24 rfl infoRule ?_) | (refine wpList_load_mid rfl 26 _ rfl pb 0 rfl _ _ l6 Tryd.underlying26 rfl infoPat ?_))
  refine (HK.out _ HB.out).mono ?_
  rintro e2 w2 ⟨rfl, hb2⟩
  have HU := Lib.hid (HU.out.keep hb2 HU.out.lt)
  have HP := Lib.hid (HP.out.keep hb2 HP.out.lt)
  have HR := Lib.hid (HR.out.keep hb2 HR.out.lt)
  have HB := Lib.hid (HB.out.trans (hb2.mono HB.out.size))
  clear l5 l6 hb2
  go_wp2_with (refine Ops.wpList_store_arr rfl 26 _ _ rfl rb rfl 26 _ noPat rfl HR.out rfl infoPat noPat_one ?_; intro w5 hrow5 hon5)
  exact bodyPost_ret (results_pat (t := 4) (u := 5) (e := .iface 47 (.int .i64 ev)) rfl _ _ hrow5 rfl rfl rfl) rfl ⟨rfl, HB.out.trans (hon5.below HRB.out)⟩
set_option maxHeartbeats 8000000 in
set_option maxRecDepth 1000000 in
theorem Torus_ok (K st ra : Int) (B S : Nat) (ta : Option Addr) (tn tc : Nat) (tz : List Int) (tu : ByteArray) (W H : Nat) (a : Option Addr) (n c : Nat) (f : Nat → Nat → Nat) (w : World) (hBS : B < 512) (hSS : S < 512) (hT : Ints.Is w ta tn tz) (hu : tu.size ≤ 9223372036854775807) (hZ : Ints.Is w a n (flat W H f)) (hn : n = W * H) (hW : W ≤ 200) (hH : H ≤ 200) (hf : ∀ x y, f x y < 2) (hp : plf K B S st ra tn tz tu W H (flat W H f) = 0) :
    Calls Tryd.prog 13 #[.agg #[.int .i64 K, .int .i64 B, .int .i64 S, .int .i64 st, .int .i64 ra, .slice ta tn tc, .string tu], .agg #[.int .i64 W, .int .i64 H, .slice a n c]] w fun e w' => (∃ g, e = .returned (.tuple #[.agg #[.int .i64 W, .int .i64 H, .slice (some ⟨g, 0, none⟩) n n], .nilIface]) ∧ w.heap.size ≤ g ∧ Vec w' g n (fun k => tor B S W H f (k % W) (k / W))) ∧ Below w.heap.size w w' := by
  have HK := Lib.hid (fun w2 (h : Below w.heap.size w w2) => check_any K B S st ra ta tn tc tz tu W H a n c (flat W H f) w2 (hT.keep h) hu (hZ.keep h))
  rw [hp, errV_zero rfl] at HK
  have HT := Lib.hid (fun w2 (h : Below w.heap.size w w2) => torus_any K st ra B S ta tn tc tu W H a n c f w2 hBS hSS (hZ.keep h) hn hW hH hf)
  clear hT hu hZ hf hn hW hH hp hBS hSS
  unfold pat at HT
  go_enter Tryd.func13, Tryd.ntmps13
  go_upto_region 1 with fail
  obtain ⟨hr1, hr2, hr3, hb2⟩ := three_new w 24 26 26 (rulP K B S st ra ta tn tc tu) (boxP W H a n c) noPat
  have HU : Hid (Row (((w.alloc (.cells #[.int .i64 K, .int .i64 B, .int .i64 S, .int .i64 st, .int .i64 ra, .slice ta tn tc, .string tu] 24)).alloc (.cells #[.int .i64 W, .int .i64 H, .slice a n c] 26)).alloc (.cells #[.int .i64 0, .int .i64 0, .slice none 0 0] 26)) w.heap.size 24 (rulP K B S st ra ta tn tc tu)) := hr1
  have HP : Hid (Row (((w.alloc (.cells #[.int .i64 K, .int .i64 B, .int .i64 S, .int .i64 st, .int .i64 ra, .slice ta tn tc, .string tu] 24)).alloc (.cells #[.int .i64 W, .int .i64 H, .slice a n c] 26)).alloc (.cells #[.int .i64 0, .int .i64 0, .slice none 0 0] 26)) (w.heap.size + 1) 26 (boxP W H a n c)) := hr2
  have HR : Hid (Row (((w.alloc (.cells #[.int .i64 K, .int .i64 B, .int .i64 S, .int .i64 st, .int .i64 ra, .slice ta tn tc, .string tu] 24)).alloc (.cells #[.int .i64 W, .int .i64 H, .slice a n c] 26)).alloc (.cells #[.int .i64 0, .int .i64 0, .slice none 0 0] 26)) (w.heap.size + 1 + 1) 26 noPat) := hr3
  have HB : Hid (Below w.heap.size w (((w.alloc (.cells #[.int .i64 K, .int .i64 B, .int .i64 S, .int .i64 st, .int .i64 ra, .slice ta tn tc, .string tu] 24)).alloc (.cells #[.int .i64 W, .int .i64 H, .slice a n c] 26)).alloc (.cells #[.int .i64 0, .int .i64 0, .slice none 0 0] 26))) := hb2
  clear hr1 hr2 hr3 hb2
  generalize ((w.alloc (.cells #[.int .i64 K, .int .i64 B, .int .i64 S, .int .i64 st, .int .i64 ra, .slice ta tn tc, .string tu] 24)).alloc (.cells #[.int .i64 W, .int .i64 H, .slice a n c] 26)).alloc (.cells #[.int .i64 0, .int .i64 0, .slice none 0 0] 26) = w1 at *
  obtain ⟨ub, hub⟩ : ∃ ub, ub = w.heap.size := ⟨_, rfl⟩
  rw [← hub] at HU HP HR ⊢
  obtain ⟨pb, hpb⟩ : ∃ pb, pb = ub + 1 := ⟨_, rfl⟩
  rw [← hpb] at HP HR ⊢
  obtain ⟨rb, hrb⟩ : ∃ rb, rb = pb + 1 := ⟨_, rfl⟩
  rw [← hrb] at HR ⊢
  have HRB : Hid (w.heap.size ≤ rb) := Lib.hid (by omega)
  clear hub hpb hrb
  have l5 := row_range HU.out
  have l6 := row_range HP.out
  go_wp2_with (first | (refine wpList_load_mid rfl 24 _ rfl ub 0 rfl _ _ l5 Tryd.underlying24 rfl infoRule ?_) | (refine wpList_load_mid rfl 26 _ rfl pb 0 rfl _ _ l6 Tryd.underlying26 rfl infoPat ?_))
  refine (HK.out _ HB.out).mono ?_
  rintro e2 w2 ⟨rfl, hb2⟩
  have HU := Lib.hid (HU.out.keep hb2 HU.out.lt)
  have HP := Lib.hid (HP.out.keep hb2 HP.out.lt)
  have HR := Lib.hid (HR.out.keep hb2 HR.out.lt)
  have HB := Lib.hid (HB.out.trans (hb2.mono HB.out.size))
  clear l5 l6 hb2
  have l5 := row_range HU.out
  have l6 := row_range HP.out
  go_wp2_with (first | (refine wpList_load_mid rfl 24 _ rfl ub 0 rfl _ _ l5 Tryd.underlying24 rfl infoRule ?_) | (refine wpList_load_mid rfl 26 _ rfl pb 0 rfl _ _ l6 Tryd.underlying26 rfl infoPat ?_))
  refine (HT.out _ HB.out).mono ?_
  rintro e3 w3 ⟨⟨g, rfl, hg, hv⟩, hb3⟩
  have hrl := HR.out.lt
  have HR := Lib.hid (HR.out.keep hb3 hrl)
  have hsz := HB.out.size
  have HB := Lib.hid (HB.out.trans (hb3.mono HB.out.size))
  have HGE : Hid (w.heap.size ≤ g ∧ g ≠ rb) := Lib.hid (by omega)
  have HV := Lib.hid hv
  clear l5 l6 hb3 hg hv hrl hsz HK HT HU HP
  go_wp2_with (refine Ops.wpList_store_arr rfl 26 _ _ rfl rb rfl 26 _ (boxP W H (some ⟨g, 0, none⟩) n n) rfl HR.out rfl infoPat (boxP_one _ _ _ _ _) ?_; intro w5 hrow5 hon5)
  exact bodyPost_ret (results_pat (t := 4) (u := 5) (e := .nilIface) rfl _ _ hrow5 rfl rfl rfl) rfl ⟨⟨g, rfl, HGE.out.1, HV.out.other hon5 HGE.out.2⟩, HB.out.trans (hon5.below HRB.out)⟩

/-- What is wrong with a pattern and a turn. -/
def tfl (W H : Int) (zs : List Int) (k : Int) : Int := if pfault W H zs ≠ 0 then pfault W H zs else if k < 0 ∨ 7 < k then 1 else 0
end Pn
end Go.Proofs.YthipeeagpllfeaaDoor
