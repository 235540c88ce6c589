/- WALK: blocks.Run: what is wrong, or n steps. -/
import Derived.Test.YtmnefdcgknmnjaaDoorBlS
import Derived.Test.YtmnefdcgknmnjaaDoorInts
import Derived.Test.YtmnefdcgknmnjaaDoorPc
namespace Go.Proofs.YtmnefdcgknmnjaaDoor
set_option linter.unusedSimpArgs false
set_option linter.unusedVariables false
open Go.RowKit Go.Lib
namespace Bl
open Tld Mem

/-- The fault of a run. -/
def rfault (tz : List Int) (W H : Int) (zs : List Int) (ph m : Int) : Int :=
  if tfault tz ≠ 0 then tfault tz else if pfault W H zs ≠ 0 then pfault W H zs else if W % 2 ≠ 0 ∨ H % 2 ≠ 0 then 3 else if ¬ ((ph = 0 ∨ ph = 1) ∧ 0 ≤ m ∧ m ≤ 100000) then 1 else 0
/-- What there is when nothing is wrong. -/
theorem tfault_zero {tz : List Int} (h : tfault tz = 0) : tz.length = 16 ∧ ∀ z ∈ tz, 0 ≤ z ∧ z ≤ 15 := by
  unfold tfault at h
  split at h
  · cases h
  · rename_i h1
    split at h
    · cases h
    · rename_i h2
      refine ⟨Decidable.of_not_not h1, fun z hz => ?_⟩
      have h3 := Bool.eq_false_iff.2 h2
      rw [List.any_eq_false] at h3
      have := h3 z hz
      unfold tbad at this
      simp at this
      omega
theorem pfault_zero {W H : Int} {zs : List Int} (h : pfault W H zs = 0) : (0 ≤ W ∧ W ≤ 100 ∧ 0 ≤ H ∧ H ≤ 100) ∧ (zs.length : Int) = W * H ∧ ∀ z ∈ zs, z = 0 ∨ z = 1 := by
  unfold pfault at h
  split at h
  · cases h
  · rename_i h1
    split at h
    · cases h
    · rename_i h2
      split at h
      · cases h
      · rename_i h3
        refine ⟨Decidable.of_not_not h1, Decidable.of_not_not h2, fun z hz => ?_⟩
        have h4 := Bool.eq_false_iff.2 h3
        rw [List.any_eq_false] at h4
        have := h4 z hz
        unfold cbad at this
        simp at this
        omega
theorem rfault_zero {tz : List Int} {W H : Int} {zs : List Int} {ph m : Int} (h : rfault tz W H zs ph m = 0) : tfault tz = 0 ∧ pfault W H zs = 0 ∧ W % 2 = 0 ∧ H % 2 = 0 ∧ (ph = 0 ∨ ph = 1) ∧ 0 ≤ m ∧ m ≤ 100000 := by
  unfold rfault at h
  split at h
  · rename_i h1; exact absurd h h1
  · rename_i h1
    split at h
    · rename_i h2; exact absurd h h2
    · rename_i h2
      split at h
      · cases h
      · rename_i h3
        split at h
        · cases h
        · rename_i h4
          have h5 := Decidable.of_not_not h4
          exact ⟨Decidable.of_not_not h1, Decidable.of_not_not h2, by omega, by omega, h5.1, h5.2.1, h5.2.2⟩
theorem tz_get {tz : List Int} (h : ∀ z ∈ tz, 0 ≤ z ∧ z ≤ 15) (k : Nat) : 0 ≤ tz.getD k 0 ∧ tz.getD k 0 ≤ 15 := by
  rw [List.getD_eq_getElem?_getD]
  rcases Nat.lt_or_ge k tz.length with hk | hk
  · rw [List.getElem?_eq_getElem hk]; exact h _ (List.getElem_mem hk)
  · rw [List.getElem?_eq_none hk]; decide
theorem holds_of_own {w : World} {B n W H : Nat} {v : Value} {zs : List Int} (h : w.ownsRow B 3 1 v n (zs.map (Value.int .i64))) (hz : zs.length = n) (hn : n = W * H) (h01 : ∀ z ∈ zs, z = 0 ∨ z = 1) :
    ∃ a c g, v = .slice a n c ∧ B ≤ g ∧ (a = none → n = 0) ∧ Holds w g a W H (cel zs W) := by
  rcases h.2 with ⟨rfl, h0⟩ | ⟨g, cap, cur, rfl, hB, hg, hnc, hcm, hcs, ht⟩
  · refine ⟨none, 0, B, by rw [h0], Nat.le_refl _, fun _ => h0, fun h1 h2 => ?_⟩
    have := Nat.mul_pos h1 h2
    omega
  · refine ⟨some ⟨g, 0, none⟩, cap, g, rfl, hB, fun h => (by cases h), fun h1 h2 => ⟨rfl, cur.toList, ?_, fun x y hx hy => ?_⟩⟩
    · unfold Row; rw [hg]
    · have hk : y * W + x < n := by rw [hn]; exact at_lt hx hy
      have h3 : (cur.toList.take (n * 1))[y * W + x]? = (zs.map (Value.int .i64))[y * W + x]? := by rw [ht]
      rw [List.getElem?_take_of_lt (by omega)] at h3
      rw [h3, List.getElem?_map, List.getElem?_eq_getElem (by omega), cel_at h01]
      simp [List.getD_eq_getElem?_getD, List.getElem?_eq_getElem (show y * W + x < zs.length by omega)]
/-- A grid that is held can be read. -/
theorem Holds.is {w : World} {g : Nat} {a : Option Addr} {W H : Nat} {c : Nat → Nat → Nat} (h : Holds w g a W H c) (hn : W * H ≤ maxLen) : Ints.Is w a (W * H) (flat W H c) := by
  refine ⟨flat_len, fun i hi => ?_, hn⟩
  obtain ⟨h1, h2, h3⟩ := at_of hi
  obtain ⟨e, cs, hR, hG⟩ := h (Nat.lt_of_le_of_lt (Nat.zero_le _) h1) (Nat.lt_of_le_of_lt (Nat.zero_le _) h2)
  refine ⟨g, 0, e, hR.lt, ?_⟩
  dsimp only
  rw [Nat.zero_add, hR.cell, flat_get hi]
  have := hG _ _ h1 h2
  rw [h3] at this
  exact this
theorem two_new (w : World) (T U : TypeId) (c1 c2 : List Value) : Row ((w.alloc (.cells c1.toArray T)).alloc (.cells c2.toArray U)) w.heap.size T c1 ∧ Row ((w.alloc (.cells c1.toArray T)).alloc (.cells c2.toArray U)) (w.heap.size + 1) U c2 ∧ Below w.heap.size w ((w.alloc (.cells c1.toArray T)).alloc (.cells c2.toArray U)) := by
  refine ⟨?_, ?_, ((Below.refl _ _).alloc (Nat.le_refl _) _).alloc (by simp) _⟩
  · exact (row_alloc w T c1).keep ((Below.refl _ _).alloc (Nat.le_refl _) (.cells c2.toArray U)) (by simp)
  · have := row_alloc (w.alloc (.cells c1.toArray T)) U c2
    rwa [World.size_alloc] at this
theorem row_range {w : World} {b : Nat} {T : TypeId} {cs : List Value} (h : Row w b T cs) : w.rangeAt b 0 cs := fun j v hv => by
  rw [Nat.zero_add, h.cell, hv]
theorem boxP_one (W H : Int) (a : Option Addr) (n c : Nat) : ∀ v ∈ boxP W H a n c, v.oneCell' = true := by simp [boxP, Value.oneCell']
/-- No pattern. -/
def noPat : List Value := [.int .i64 0, .int .i64 0, .slice none 0 0]
theorem infoPat : (Tryd.prog.info? 24).map (·.size) = some 3 := by kernel_rfl
theorem results_pat (tmps : Array Value) (w : World) {q : Nat} {V : List Value} {e : Value} (h : Row w q 24 V) (hV : V.length = 3) (h8 : tmps.getD 8 undef = .pointer (some ⟨q, 0, none⟩) := by rfl) (h9 : tmps.getD 9 undef = e := by rfl) :
    (results Tryd.f8 tmps).run Tryd.prog w = .ok (.tuple #[.agg V.toArray, e]) w := by
  have hl := run_loadVar_row (P := Tryd.prog) w q 24 24 V.toArray (0, 0) _ h Tryd.underlying24 rfl (by rw [List.size_toArray, hV]; exact infoPat)
  have h8' : tmps[8]?.getD undef = .pointer (some ⟨q, 0, none⟩) := by simpa using h8
  have h9' : tmps[9]?.getD undef = e := by simpa using h9
  simp [results, Tryd.results8, h8', h9', asAddr, hl]

set_option maxHeartbeats 4000000 in
set_option maxRecDepth 1000000 in
theorem run_ok (ta : Option Addr) (tc : Nat) (tz : List Int) (W H : Nat) (a : Option Addr) (n c : Nat) (zs : List Int) (ph m : Nat) (w : World) (hT : Cells w ta 16 (fun i => .int .i64 (tz.getD i 0))) (hP : Cells w a n (fun i => .int .i64 (zs.getD i 0))) (hz : zs.length = n) (hnil : a = none → n = 0) (hf : rfault tz W H zs ph m = 0) :
    Calls Tryd.prog 8 #[.slice ta 16 tc, pat W H a n c, .int .i64 ph, .int .i64 m] w fun e w' => (∃ a' c' g, e = .returned (.tuple #[pat W H a' n c', .nilIface]) ∧ w.heap.size ≤ g ∧ (a' = none → n = 0) ∧ Holds w' g a' W H (run (tN tz) W H ph (cel zs W) m)) ∧ Below w.heap.size w w' := by
  obtain ⟨hf1, hf2, hW, hH, hph, hm0, hm1⟩ := rfault_zero hf
  obtain ⟨ht16, htb⟩ := tfault_zero hf1
  obtain ⟨⟨hw0, hw1, hh0, hh1⟩, hwh, h01⟩ := pfault_zero hf2
  have hn : n = W * H := by
    have : ((W * H : Nat) : Int) = (W : Int) * (H : Int) := by push_cast; rfl
    omega
  have hn1 : n ≤ 10000 := by
    have : W * H ≤ 100 * 100 := Nat.mul_le_mul (by omega) (by omega)
    omega
  have hwn : W % 2 = 0 := by omega
  have hhn : H % 2 = 0 := by omega
  have hpn : ph ≤ 1 := by omega
  have HCK := Lib.hid (fun w2 : World => fun h2 : Below w.heap.size w w2 => check_any ta 16 tc tz w2 ht16 (by omega) (hT.keep h2))
  have HPC := Lib.hid (fun w2 : World => fun h2 : Below w.heap.size w w2 => pcheck_any W H a n c zs w2 hz (by omega) (hP.keep h2))
  have HCL := Lib.hid (fun w2 : World => fun h2 : Below w.heap.size w w2 => clone_any a n c zs w2 hz (by omega) (hP.keep h2) hnil)
  rw [hf1, errV_zero rfl] at HCK
  rw [hf2, errV_zero rfl] at HPC
  have HT := Lib.hid hT
  have HTB := Lib.hid htb
  have H01 := Lib.hid h01
  have HZ := Lib.hid hz
  have HN := Lib.hid hn
  have HWN := Lib.hid hwn
  have HHN := Lib.hid hhn
  have htw : (W : Int).tmod 2 = 0 := by rw [show ((W : Int)).tmod 2 = ((W % 2 : Nat) : Int) from Int.ofNat_tmod _ _, hwn]; rfl
  have hth : (H : Int).tmod 2 = 0 := by rw [show ((H : Int)).tmod 2 = ((H % 2 : Nat) : Int) from Int.ofNat_tmod _ _, hhn]; rfl
  clear hT hP htb h01 hz hn hf hf1 hf2 hwh hnil hW hH ht16 hwn hhn
  have hm2 : m ≤ 100000 := by omega
  have hph' : ph = 0 ∨ ph = 1 := by omega
  unfold pat at HPC ⊢
  go_enter Tryd.func8, Tryd.ntmps8
  go_wp2_with fail
  obtain ⟨hR5, hR8, hB2⟩ := two_new w 24 24 (boxP W H a n c) noPat
  have hB2' : Below w.heap.size w ((w.alloc (.cells #[.int .i64 W, .int .i64 H, .slice a n c] 24)).alloc (.cells #[.int .i64 0, .int .i64 0, .slice none 0 0] 24)) := hB2
  have HR5 : Hid (Row ((w.alloc (.cells #[.int .i64 W, .int .i64 H, .slice a n c] 24)).alloc (.cells #[.int .i64 0, .int .i64 0, .slice none 0 0] 24)) w.heap.size 24 (boxP W H a n c)) := hR5
  have HR8 : Hid (Row ((w.alloc (.cells #[.int .i64 W, .int .i64 H, .slice a n c] 24)).alloc (.cells #[.int .i64 0, .int .i64 0, .slice none 0 0] 24)) (w.heap.size + 1) 24 noPat) := hR8
  have HB := Lib.hid hB2'
  clear hR5 hR8 hB2 hB2'
  generalize (w.alloc (.cells #[.int .i64 W, .int .i64 H, .slice a n c] 24)).alloc (.cells #[.int .i64 0, .int .i64 0, .slice none 0 0] 24) = w1 at *
  refine (HCK.out _ HB.out).mono ?_
  rintro e1 w1 ⟨rfl, rfl⟩
  have l5 := row_range HR5.out
  go_wp2_with (refine wpList_load_mid rfl 24 _ rfl w.heap.size 0 rfl _ _ l5 Tryd.underlying24 rfl infoPat ?_)
  refine (HPC.out _ HB.out).mono ?_
  rintro e2 w2 ⟨rfl, hb2⟩
  have HR5 := Lib.hid (HR5.out.keep hb2 HR5.out.lt)
  have HR8 := Lib.hid (HR8.out.keep hb2 HR8.out.lt)
  have HB := Lib.hid (HB.out.trans (hb2.mono HB.out.size))
  clear hb2 l5
  have f0 := HR5.out.cell 0
  have f1 := HR5.out.cell 1
  have f2 := HR5.out.cell 2
  unfold boxP at f0 f1 f2
  dsimp only [List.getElem?_cons_succ, List.getElem?_cons_zero] at f0 f1 f2
  obtain ⟨pp, hpp⟩ : ∃ pp, pp = ph := ⟨_, rfl⟩
  have HPP := Lib.hid hpp
  clear hpp
  rcases hph' with rfl | rfl
  all_goals
    go_wp2_with fail
    refine (HCL.out _ HB.out).mono ?_
    rintro e3 w3 ⟨v', rfl, hown, hb3⟩
    obtain ⟨a', c', g, rfl, hg, hnil', hG⟩ := holds_of_own hown HZ.out HN.out H01.out
    have hg5 : w.heap.size ≠ g := by have := HR5.out.lt; omega
    have hg8 : w.heap.size + 1 ≠ g := by have := HR8.out.lt; omega
    have hgw : w.heap.size ≤ g := by have := HR5.out.lt; omega
    have hR5k := HR5.out.keep hb3 HR5.out.lt
    have hR8k := HR8.out.keep hb3 HR8.out.lt
    have HBk := Lib.hid (HB.out.trans (hb3.mono HB.out.size))
    have hf5 := hR5k.frozen 2
    have f2 := hR5k.cell 2
    unfold boxP at f2
    dsimp only [List.getElem?_cons_succ, List.getElem?_cons_zero] at f2
    have HR5s : Hid (Row (w3.setCell ⟨w.heap.size, 2, none⟩ (.slice a' n c')) w.heap.size 24 (boxP W H a' n c')) := hR5k.set 2 (.slice a' n c')
    have HO := Lib.hid (only_setCell w3 w.heap.size 2 (.slice a' n c'))
    have HR8s := Lib.hid (hR8k.other HO.out (by omega))
    have HG := Lib.hid hG
    have HNIL := Lib.hid hnil'
    clear hR5k hR8k hb3 hown HR5 HR8 HB f0 f1 hG hnil' hg
    go_wp2_with fail
    have HGs : Hid (Holds (w3.setCell ⟨w.heap.size, 2, none⟩ (.slice a' n c')) g a' W H (cel zs W)) := fun h1 h2 => by
      obtain ⟨e1, cs, hR, hGr⟩ := HG.out h1 h2
      exact ⟨e1, cs, hR.other HO.out (fun e => hg5 e.symm), hGr⟩
    have HBs := Lib.hid (HBk.out.trans (HO.out.below (Nat.le_refl _)))
    clear HG HBk HO f2 hf5
    generalize w3.setCell ⟨w.heap.size, 2, none⟩ (.slice a' n c') = w4 at *
    go_loopw [60] (fun v wr => ∃ i : Nat, i ≤ m ∧ v = .int .i64 i ∧ Row wr w.heap.size 24 (boxP W H a' n c') ∧ Row wr (w.heap.size + 1) 24 noPat ∧ Holds wr g a' W H (run (tN tz) W H pp (cel zs W) i) ∧ Below w.heap.size w wr) (fun v _ => m - (intOf v).toNat)
    case atStart => exact ⟨0, Nat.zero_le _, rfl, HR5s.out, HR8s.out, HGs.out, HBs.out⟩
    case round =>
      clear HR5s HR8s HGs HBs
      obtain ⟨i, hi, rfl, hR5, hR8, hG, hbel⟩ := hrel
      have HR5 := Lib.hid hR5
      have HR8 := Lib.hid hR8
      have HG := Lib.hid hG
      have HB := Lib.hid hbel
      clear hR5 hR8 hG hbel
      by_cases hlt : i < m
      · obtain ⟨r, hr⟩ : ∃ r, r = (pp + i) % 2 := ⟨_, rfl⟩
        have hpm0 : Hid (pp = 0 → (i : Int).tmod 2 = (r : Int)) := fun e => by
          rw [hr, e, Nat.zero_add]; exact Int.ofNat_tmod _ _
        have hpm1 : Hid (pp = 1 → (1 + (i : Int)).tmod 2 = (r : Int)) := fun e => by
          rw [hr, e, show (1 + (i : Int)) = ((1 + i : Nat) : Int) from by push_cast; rfl]; exact Int.ofNat_tmod _ _
        first | (have hpm := hpm0.out HPP.out) | (have hpm := hpm1.out HPP.out)
        clear hpm0 hpm1
        have HST : Hid (Calls Tryd.prog 22 #[.slice ta 16 tc, .agg #[.int .i64 W, .int .i64 H, .slice a' n c'], .int .i64 (r : Nat)] wr fun e w' => e = .returned (.tuple #[]) ∧ Holds w' g a' W H (run (tN tz) W H pp (cel zs W) (i + 1)) ∧ wr.grownBy w' (some g)) := by
          subst hr
          exact step_any ta tc tz W H a' n c' g ((pp + i) % 2) (run (tN tz) W H pp (cel zs W) i) wr (HT.out.keep HB.out) (fun b off e => by
              obtain ⟨b', off', e', hlt', _⟩ := HT.out 0 (by omega)
              rw [e] at e'
              cases e'
              omega) (fun b _ => tz_get HTB.out b) HWN.out HHN.out (by omega) (by omega) HN.out (by omega) (run_lt (cel_lt H01.out) i) HG.out
        have l5 := row_range HR5.out
        clear hr
        go_wp2_with (refine wpList_load_mid rfl 24 _ rfl w.heap.size 0 rfl _ _ l5 Tryd.underlying24 rfl infoPat ?_)
        refine HST.out.mono ?_
        rintro e4 w5 ⟨rfl, hG', hU⟩
        have HR5' := Lib.hid ((hU.block _ HR5.out.lt (fun e => hg5 (Option.some.inj e))).trans HR5.out)
        have HR8' := Lib.hid ((hU.block _ HR8.out.lt (fun e => hg8 (Option.some.inj e))).trans HR8.out)
        have HB' := Lib.hid (HB.out.grown hU HB.out.size (fun k hk => by cases hk; exact hgw))
        have HG' := Lib.hid hG'
        clear hG' hU HST HR5 HR8 HG HB
        go_wp2_with fail
        go_roundw
        case rel => exact ⟨i + 1, by omega, by go_num, HR5'.out, HR8'.out, HG'.out, HB'.out⟩
        case measure => simp [intOf]; omega
      · have him : i = m := by omega
        subst him
        have l5 := row_range HR5.out
        go_wp2_with (first | (refine wpList_load_mid rfl 24 _ rfl w.heap.size 0 rfl _ _ l5 Tryd.underlying24 rfl infoPat ?_) | (refine Ops.wpList_store_arr rfl 24 _ _ rfl (w.heap.size + 1) rfl 24 _ _ rfl HR8.out rfl infoPat (boxP_one _ _ _ _ _) ?_; intro w5 hrow5 hon5))
        refine bodyPost_ret (results_pat _ _ hrow5 rfl) rfl ⟨⟨a', c', g, rfl, hgw, HNIL.out, ?_⟩, HB.out.trans (hon5.below (by omega))⟩
        rw [← HPP.out]
        intro h1 h2
        obtain ⟨e1, cs, hR, hGr⟩ := HG.out h1 h2
        exact ⟨e1, cs, hR.other hon5 (fun e => hg8 e.symm), hGr⟩
end Bl
end Go.Proofs.YtmnefdcgknmnjaaDoor
