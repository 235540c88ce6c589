/- WALK: line.Compose, line.Widen. -/
import Derived.Test.YtgefikkklbjcbaaDoorLnV
namespace Go.Proofs.YtgefikkklbjcbaaDoor
set_option linter.unusedSimpArgs false
set_option linter.unusedVariables false
open Go.RowKit
namespace Ln
open Tld Mem

theorem three_new (w : World) (T U V : TypeId) (c1 c2 c3 : List Value) :
    Row (((w.alloc (.cells c1.toArray T)).alloc (.cells c2.toArray U)).alloc (.cells c3.toArray V)) w.heap.size T c1 ∧ Row (((w.alloc (.cells c1.toArray T)).alloc (.cells c2.toArray U)).alloc (.cells c3.toArray V)) (w.heap.size + 1) U c2 ∧ Row (((w.alloc (.cells c1.toArray T)).alloc (.cells c2.toArray U)).alloc (.cells c3.toArray V)) (w.heap.size + 1 + 1) V c3 ∧
    Below w.heap.size w (((w.alloc (.cells c1.toArray T)).alloc (.cells c2.toArray U)).alloc (.cells c3.toArray V)) := by
  refine ⟨?_, ?_, ?_, (((Below.refl _ _).alloc (Nat.le_refl _) _).alloc (by simp) _).alloc (by simp; omega) _⟩
  · exact ((row_alloc w T c1).keep ((Below.refl _ _).alloc (Nat.le_refl _) (.cells c2.toArray U)) (by simp)).keep ((Below.refl _ _).alloc (Nat.le_refl _) (.cells c3.toArray V)) (by simp; omega)
  · have := row_alloc (w.alloc (.cells c1.toArray T)) U c2
    rw [World.size_alloc] at this
    exact this.keep ((Below.refl _ _).alloc (Nat.le_refl _) (.cells c3.toArray V)) (by simp)
  · have := row_alloc ((w.alloc (.cells c1.toArray T)).alloc (.cells c2.toArray U)) V c3
    rwa [World.size_alloc, World.size_alloc] at this
theorem is_other {w w' : World} {g b n : Nat} {zs : List Int} (h : Ints.Is w (some ⟨g, 0, none⟩) n zs) (ho : Only b w w') (hne : g ≠ b) : Ints.Is w' (some ⟨g, 0, none⟩) n zs := by
  refine ⟨h.len, fun i hi => ?_, h.le⟩
  obtain ⟨b', o', e, hb, hc⟩ := h.cells i hi
  cases e
  refine ⟨g, 0, rfl, by rw [ho.size]; exact hb, ?_⟩
  rw [World.cell?_of_block (w := w) (ho.block g hne)]
  exact hc
theorem noRul_one : ∀ v ∈ noRul, v.oneCell' = true := by simp [noRul, Value.oneCell']
theorem results_comp (tmps : Array Value) (w : World) {q : Nat} {V : List Value} {e : Value} (h : Row w q 24 V) (hV : V.length = 7) (h8 : tmps.getD 4 undef = .pointer (some ⟨q, 0, none⟩) := by rfl) (h9 : tmps.getD 5 undef = e := by rfl) :
    (results Tryd.f10 tmps).run Tryd.prog w = .ok (.tuple #[.agg V.toArray, e]) w := by
  have hl := run_loadVar_row (P := Tryd.prog) w q 24 24 V.toArray (0, 0) _ h Tryd.underlying24 rfl (by rw [List.size_toArray, hV]; exact infoRule)
  have h8' : tmps[4]?.getD undef = .pointer (some ⟨q, 0, none⟩) := by simpa using h8
  have h9' : tmps[5]?.getD undef = e := by simpa using h9
  simp [results, Tryd.results10, h8', h9', asAddr, hl]
theorem results_wide (tmps : Array Value) (w : World) {q : Nat} {V : List Value} {e : Value} (h : Row w q 24 V) (hV : V.length = 7) (h8 : tmps.getD 4 undef = .pointer (some ⟨q, 0, none⟩) := by rfl) (h9 : tmps.getD 5 undef = e := by rfl) :
    (results Tryd.f11 tmps).run Tryd.prog w = .ok (.tuple #[.agg V.toArray, e]) w := by
  have hl := run_loadVar_row (P := Tryd.prog) w q 24 24 V.toArray (0, 0) _ h Tryd.underlying24 rfl (by rw [List.size_toArray, hV]; exact infoRule)
  have h8' : tmps[4]?.getD undef = .pointer (some ⟨q, 0, none⟩) := by simpa using h8
  have h9' : tmps[5]?.getD undef = e := by simpa using h9
  simp [results, Tryd.results11, h8', h9', asAddr, hl]
/-- What is wrong with two rules that are to be one. -/
noncomputable def cfault (K B S st ra : Int) (tz : List Int) (tu : ByteArray) (K' B' S' st' rb : Int) (tz' : List Int) (tu' : ByteArray) : Int :=
  if lfault K B S st ra tz tu ≠ 0 then lfault K B S st ra tz tu else if lfault K' B' S' st' rb tz' tu' ≠ 0 then lfault K' B' S' st' rb tz' tu' else if st ≠ st' then 3 else if 4096 < st.toNat ^ (2 * (ra.toNat + rb.toNat) + 1) then 4 else 0
/-- What is wrong with a rule that is to have another radius. -/
noncomputable def dfault (K B S st ra : Int) (tz : List Int) (tu : ByteArray) (S' : Int) : Int :=
  if lfault K B S st ra tz tu ≠ 0 then lfault K B S st ra tz tu else if S' < ra then 1 else if 4096 < S' ∨ 4096 < st.toNat ^ (2 * S'.toNat + 1) then 4 else 0
theorem lfault_01 {K B S st ra : Int} {tz : List Int} {tu : ByteArray} (h : lfault K B S st ra tz tu = 0) : Ok K B S st ra tz tu := by
  classical
  by_cases ho : Ok K B S st ra tz tu
  · exact ho
  · rw [lfault_no ho] at h; cases h
theorem sz_zero {st r : Nat} (h : 4096 < st ^ (2 * r + 1)) : sz st r = 0 := by unfold sz; rw [if_neg (by omega)]
theorem sz_pos {st r : Nat} (h : st ^ (2 * r + 1) ≤ 4096) : sz st r = st ^ (2 * r + 1) := by unfold sz; rw [if_pos h]
theorem rad5 {st r : Nat} (h2 : 2 ≤ st) (h : st ^ (2 * r + 1) ≤ 4096) : r ≤ 5 := by
  rcases Nat.lt_or_ge 5 r with h5 | h5
  · exfalso
    have h6 : 2 ^ 13 ≤ st ^ (2 * r + 1) := Nat.le_trans (Nat.pow_le_pow_right (by omega) (show 13 ≤ 2 * r + 1 by omega)) (Nat.pow_le_pow_left h2 _)
    omega
  · exact h5
set_option maxHeartbeats 8000000 in
set_option maxRecDepth 1000000 in
theorem compose_bad (K B S st ra : Int) (ta : Option Addr) (tn tc : Nat) (tz : List Int) (tu : ByteArray) (K' B' S' st' rb : Int) (tb : Option Addr) (tm td : Nat) (tz' : List Int) (tu' : ByteArray) (f : Int) (w : World) (hT : Ints.Is w ta tn tz) (hu : tu.size ≤ 9223372036854775807) (hT' : Ints.Is w tb tm tz') (hu' : tu'.size ≤ 9223372036854775807) (hf : cfault K B S st ra tz tu K' B' S' st' rb tz' tu' = f) (h0 : f ≠ 0) :
    Calls Tryd.prog 10 #[.agg #[.int .i64 K, .int .i64 B, .int .i64 S, .int .i64 st, .int .i64 ra, .slice ta tn tc, .string tu], .agg #[.int .i64 K', .int .i64 B', .int .i64 S', .int .i64 st', .int .i64 rb, .slice tb tm td, .string tu']] w fun e w' => e = .returned (.tuple #[.agg noRul.toArray, .iface 53 (.int .i64 f)]) ∧ Below w.heap.size w w' := by
  have HCA := Lib.hid (fun w2 (h2 : Below w.heap.size w w2) => check_any K B S st ra ta tn tc tz tu w2 (hT.keep h2) hu)
  have HCB := Lib.hid (fun w2 (h2 : Below w.heap.size w w2) => check_any K' B' S' st' rb tb tm td tz' tu' w2 (hT'.keep h2) hu')
  unfold rulL at HCA HCB
  unfold cfault at hf
  by_cases ha : lfault K B S st ra tz tu = 0
  · rw [if_neg (by simp [ha])] at hf
    obtain ⟨s, r, hs, hr', h2, h4, hr5, htn, htl, htz⟩ := (lfault_01 ha).nat hT.len
    obtain rfl := hs
    obtain rfl := hr'
    by_cases hb : lfault K' B' S' st' rb tz' tu' = 0
    · rw [if_neg (by simp [hb])] at hf
      obtain ⟨s', r', hs, hr', h2', h4', hr5', htn', htl', htz'⟩ := (lfault_01 hb).nat hT'.len
      obtain rfl := hs
      obtain rfl := hr'
      have HA := Lib.hid ha
      have HBB := Lib.hid hb
      clear ha hb hT hT' htz htz' htn htn'
      by_cases hst : (s : Int) = (s' : Int)
      · skip
        obtain rfl : s = s' := by omega
        rw [if_neg (by simp)] at hf
        obtain ⟨hlt, rfl⟩ : 4096 < s ^ (2 * (r + r') + 1) ∧ f = 4 := by
          rw [Int.toNat_natCast, Int.toNat_natCast, Int.toNat_natCast] at hf
          by_cases hl : 4096 < s ^ (2 * (r + r') + 1)
          · rw [if_pos hl] at hf; exact ⟨hl, hf.symm⟩
          · rw [if_neg hl] at hf; exact absurd hf.symm h0
        clear hf h0
        obtain ⟨rr, hrr⟩ : ∃ rr, rr = r + r' := ⟨_, rfl⟩
        have hri : (r : Int) + (r' : Int) = (rr : Int) := by omega
        have HSZ := Lib.hid (fun w2 => size_any (st := s) (ra := rr) h2 h4 (by omega) w2)
        rw [hrr, sz_zero hlt, ← hrr] at HSZ
        have hrr10 : rr ≤ 10 := by omega
        clear hlt hrr
        go_enter Tryd.func10, Tryd.ntmps10
        go_wp2_with fail
        obtain ⟨hR2, hR3, hR4, hB⟩ := three_new w 24 24 24 (rulL K B S s r ta tn tc tu) (rulL K' B' S' s r' tb tm td tu') noRul
        have HR2 : Hid (Row (((w.alloc (.cells #[.int .i64 K, .int .i64 B, .int .i64 S, .int .i64 (s : Nat), .int .i64 (r : Nat), .slice ta tn tc, .string tu] 24)).alloc (.cells #[.int .i64 K', .int .i64 B', .int .i64 S', .int .i64 (s : Nat), .int .i64 (r' : Nat), .slice tb tm td, .string tu'] 24)).alloc (.cells #[.int .i64 0, .int .i64 0, .int .i64 0, .int .i64 0, .int .i64 0, .slice none 0 0, .string ⟨#[]⟩] 24)) w.heap.size 24 (rulL K B S s r ta tn tc tu)) := hR2
        have HR3 : Hid (Row (((w.alloc (.cells #[.int .i64 K, .int .i64 B, .int .i64 S, .int .i64 (s : Nat), .int .i64 (r : Nat), .slice ta tn tc, .string tu] 24)).alloc (.cells #[.int .i64 K', .int .i64 B', .int .i64 S', .int .i64 (s : Nat), .int .i64 (r' : Nat), .slice tb tm td, .string tu'] 24)).alloc (.cells #[.int .i64 0, .int .i64 0, .int .i64 0, .int .i64 0, .int .i64 0, .slice none 0 0, .string ⟨#[]⟩] 24)) (w.heap.size + 1) 24 (rulL K' B' S' s r' tb tm td tu')) := hR3
        have HR4 : Hid (Row (((w.alloc (.cells #[.int .i64 K, .int .i64 B, .int .i64 S, .int .i64 (s : Nat), .int .i64 (r : Nat), .slice ta tn tc, .string tu] 24)).alloc (.cells #[.int .i64 K', .int .i64 B', .int .i64 S', .int .i64 (s : Nat), .int .i64 (r' : Nat), .slice tb tm td, .string tu'] 24)).alloc (.cells #[.int .i64 0, .int .i64 0, .int .i64 0, .int .i64 0, .int .i64 0, .slice none 0 0, .string ⟨#[]⟩] 24)) (w.heap.size + 1 + 1) 24 noRul) := hR4
        have HB : Hid (Below w.heap.size w (((w.alloc (.cells #[.int .i64 K, .int .i64 B, .int .i64 S, .int .i64 (s : Nat), .int .i64 (r : Nat), .slice ta tn tc, .string tu] 24)).alloc (.cells #[.int .i64 K', .int .i64 B', .int .i64 S', .int .i64 (s : Nat), .int .i64 (r' : Nat), .slice tb tm td, .string tu'] 24)).alloc (.cells #[.int .i64 0, .int .i64 0, .int .i64 0, .int .i64 0, .int .i64 0, .slice none 0 0, .string ⟨#[]⟩] 24))) := hB
        clear hR2 hR3 hR4 hB
        generalize ((w.alloc (.cells #[.int .i64 K, .int .i64 B, .int .i64 S, .int .i64 (s : Nat), .int .i64 (r : Nat), .slice ta tn tc, .string tu] 24)).alloc (.cells #[.int .i64 K', .int .i64 B', .int .i64 S', .int .i64 (s : Nat), .int .i64 (r' : Nat), .slice tb tm td, .string tu'] 24)).alloc (.cells #[.int .i64 0, .int .i64 0, .int .i64 0, .int .i64 0, .int .i64 0, .slice none 0 0, .string ⟨#[]⟩] 24) = w1 at *
        have l2 := row_range HR2.out
        go_wp2_with (refine wpList_load_mid rfl 24 _ rfl w.heap.size 0 rfl _ _ l2 Tryd.underlying24 rfl infoRule ?_)
        clear l2
        refine (HCA.out _ HB.out).mono ?_
        rintro e1 w2 ⟨rfl, hb2⟩
        have HR2 := Lib.hid (HR2.out.keep hb2 HR2.out.lt)
        have HR3 := Lib.hid (HR3.out.keep hb2 HR3.out.lt)
        have HR4 := Lib.hid (HR4.out.keep hb2 HR4.out.lt)
        have HB := Lib.hid (HB.out.trans (hb2.mono HB.out.size))
        clear hb2
        rw [HA.out, errV_zero rfl]
        have l3 := row_range HR3.out
        go_wp2_with (refine wpList_load_mid rfl 24 _ rfl (w.heap.size + 1) 0 rfl _ _ l3 Tryd.underlying24 rfl infoRule ?_)
        clear l3
        refine (HCB.out _ HB.out).mono ?_
        rintro e1 w3 ⟨rfl, hb3⟩
        have HR2 := Lib.hid (HR2.out.keep hb3 HR2.out.lt)
        have HR3 := Lib.hid (HR3.out.keep hb3 HR3.out.lt)
        have HR4 := Lib.hid (HR4.out.keep hb3 HR4.out.lt)
        have HB := Lib.hid (HB.out.trans (hb3.mono HB.out.size))
        clear hb3
        rw [HBB.out, errV_zero rfl]
        have f3 := HR2.out.cell 3
        have f4 := HR2.out.cell 4
        unfold rulL at f3 f4
        dsimp only [List.getElem?_cons_succ, List.getElem?_cons_zero] at f3 f4
        have g3 := HR3.out.cell 3
        have g4 := HR3.out.cell 4
        unfold rulL at g3 g4
        dsimp only [List.getElem?_cons_succ, List.getElem?_cons_zero] at g3 g4
        go_wp2_with fail
        refine (HSZ.out _).mono ?_
        rintro e1 w4 ⟨rfl, rfl⟩
        go_wp2_with (refine Ops.wpList_store_arr rfl 24 _ _ rfl (w.heap.size + 1 + 1) rfl 24 _ noRul rfl HR4.out rfl infoRule noRul_one ?_; intro w9 hrow9 hon9)
        exact bodyPost_ret (results_comp _ _ hrow9 rfl) rfl ⟨rfl, HB.out.trans (hon9.below (by omega))⟩
      · skip
        rw [if_pos hst] at hf
        obtain rfl : f = 3 := hf.symm
        clear hf h0
        go_enter Tryd.func10, Tryd.ntmps10
        go_wp2_with fail
        obtain ⟨hR2, hR3, hR4, hB⟩ := three_new w 24 24 24 (rulL K B S s r ta tn tc tu) (rulL K' B' S' s' r' tb tm td tu') noRul
        have HR2 : Hid (Row (((w.alloc (.cells #[.int .i64 K, .int .i64 B, .int .i64 S, .int .i64 (s : Nat), .int .i64 (r : Nat), .slice ta tn tc, .string tu] 24)).alloc (.cells #[.int .i64 K', .int .i64 B', .int .i64 S', .int .i64 (s' : Nat), .int .i64 (r' : Nat), .slice tb tm td, .string tu'] 24)).alloc (.cells #[.int .i64 0, .int .i64 0, .int .i64 0, .int .i64 0, .int .i64 0, .slice none 0 0, .string ⟨#[]⟩] 24)) w.heap.size 24 (rulL K B S s r ta tn tc tu)) := hR2
        have HR3 : Hid (Row (((w.alloc (.cells #[.int .i64 K, .int .i64 B, .int .i64 S, .int .i64 (s : Nat), .int .i64 (r : Nat), .slice ta tn tc, .string tu] 24)).alloc (.cells #[.int .i64 K', .int .i64 B', .int .i64 S', .int .i64 (s' : Nat), .int .i64 (r' : Nat), .slice tb tm td, .string tu'] 24)).alloc (.cells #[.int .i64 0, .int .i64 0, .int .i64 0, .int .i64 0, .int .i64 0, .slice none 0 0, .string ⟨#[]⟩] 24)) (w.heap.size + 1) 24 (rulL K' B' S' s' r' tb tm td tu')) := hR3
        have HR4 : Hid (Row (((w.alloc (.cells #[.int .i64 K, .int .i64 B, .int .i64 S, .int .i64 (s : Nat), .int .i64 (r : Nat), .slice ta tn tc, .string tu] 24)).alloc (.cells #[.int .i64 K', .int .i64 B', .int .i64 S', .int .i64 (s' : Nat), .int .i64 (r' : Nat), .slice tb tm td, .string tu'] 24)).alloc (.cells #[.int .i64 0, .int .i64 0, .int .i64 0, .int .i64 0, .int .i64 0, .slice none 0 0, .string ⟨#[]⟩] 24)) (w.heap.size + 1 + 1) 24 noRul) := hR4
        have HB : Hid (Below w.heap.size w (((w.alloc (.cells #[.int .i64 K, .int .i64 B, .int .i64 S, .int .i64 (s : Nat), .int .i64 (r : Nat), .slice ta tn tc, .string tu] 24)).alloc (.cells #[.int .i64 K', .int .i64 B', .int .i64 S', .int .i64 (s' : Nat), .int .i64 (r' : Nat), .slice tb tm td, .string tu'] 24)).alloc (.cells #[.int .i64 0, .int .i64 0, .int .i64 0, .int .i64 0, .int .i64 0, .slice none 0 0, .string ⟨#[]⟩] 24))) := hB
        clear hR2 hR3 hR4 hB
        generalize ((w.alloc (.cells #[.int .i64 K, .int .i64 B, .int .i64 S, .int .i64 (s : Nat), .int .i64 (r : Nat), .slice ta tn tc, .string tu] 24)).alloc (.cells #[.int .i64 K', .int .i64 B', .int .i64 S', .int .i64 (s' : Nat), .int .i64 (r' : Nat), .slice tb tm td, .string tu'] 24)).alloc (.cells #[.int .i64 0, .int .i64 0, .int .i64 0, .int .i64 0, .int .i64 0, .slice none 0 0, .string ⟨#[]⟩] 24) = w1 at *
        have l2 := row_range HR2.out
        go_wp2_with (refine wpList_load_mid rfl 24 _ rfl w.heap.size 0 rfl _ _ l2 Tryd.underlying24 rfl infoRule ?_)
        clear l2
        refine (HCA.out _ HB.out).mono ?_
        rintro e1 w2 ⟨rfl, hb2⟩
        have HR2 := Lib.hid (HR2.out.keep hb2 HR2.out.lt)
        have HR3 := Lib.hid (HR3.out.keep hb2 HR3.out.lt)
        have HR4 := Lib.hid (HR4.out.keep hb2 HR4.out.lt)
        have HB := Lib.hid (HB.out.trans (hb2.mono HB.out.size))
        clear hb2
        rw [HA.out, errV_zero rfl]
        have l3 := row_range HR3.out
        go_wp2_with (refine wpList_load_mid rfl 24 _ rfl (w.heap.size + 1) 0 rfl _ _ l3 Tryd.underlying24 rfl infoRule ?_)
        clear l3
        refine (HCB.out _ HB.out).mono ?_
        rintro e1 w3 ⟨rfl, hb3⟩
        have HR2 := Lib.hid (HR2.out.keep hb3 HR2.out.lt)
        have HR3 := Lib.hid (HR3.out.keep hb3 HR3.out.lt)
        have HR4 := Lib.hid (HR4.out.keep hb3 HR4.out.lt)
        have HB := Lib.hid (HB.out.trans (hb3.mono HB.out.size))
        clear hb3
        rw [HBB.out, errV_zero rfl]
        have hsn : ¬ s = s' := by omega
        have f3 := HR2.out.cell 3
        have f4 := HR2.out.cell 4
        unfold rulL at f3 f4
        dsimp only [List.getElem?_cons_succ, List.getElem?_cons_zero] at f3 f4
        have g3 := HR3.out.cell 3
        have g4 := HR3.out.cell 4
        unfold rulL at g3 g4
        dsimp only [List.getElem?_cons_succ, List.getElem?_cons_zero] at g3 g4
        go_wp2_with (refine Ops.wpList_store_arr rfl 24 _ _ rfl (w.heap.size + 1 + 1) rfl 24 _ noRul rfl HR4.out rfl infoRule noRul_one ?_; intro w9 hrow9 hon9)
        exact bodyPost_ret (results_comp _ _ hrow9 rfl) rfl ⟨rfl, HB.out.trans (hon9.below (by omega))⟩
    · rw [if_pos (by simpa using hb)] at hf
      have HA := Lib.hid ha
      clear ha hT hT' htz htn hb
      go_enter Tryd.func10, Tryd.ntmps10
      go_wp2_with fail
      obtain ⟨hR2, hR3, hR4, hB⟩ := three_new w 24 24 24 (rulL K B S s r ta tn tc tu) (rulL K' B' S' st' rb tb tm td tu') noRul
      have HR2 : Hid (Row (((w.alloc (.cells #[.int .i64 K, .int .i64 B, .int .i64 S, .int .i64 (s : Nat), .int .i64 (r : Nat), .slice ta tn tc, .string tu] 24)).alloc (.cells #[.int .i64 K', .int .i64 B', .int .i64 S', .int .i64 st', .int .i64 rb, .slice tb tm td, .string tu'] 24)).alloc (.cells #[.int .i64 0, .int .i64 0, .int .i64 0, .int .i64 0, .int .i64 0, .slice none 0 0, .string ⟨#[]⟩] 24)) w.heap.size 24 (rulL K B S s r ta tn tc tu)) := hR2
      have HR3 : Hid (Row (((w.alloc (.cells #[.int .i64 K, .int .i64 B, .int .i64 S, .int .i64 (s : Nat), .int .i64 (r : Nat), .slice ta tn tc, .string tu] 24)).alloc (.cells #[.int .i64 K', .int .i64 B', .int .i64 S', .int .i64 st', .int .i64 rb, .slice tb tm td, .string tu'] 24)).alloc (.cells #[.int .i64 0, .int .i64 0, .int .i64 0, .int .i64 0, .int .i64 0, .slice none 0 0, .string ⟨#[]⟩] 24)) (w.heap.size + 1) 24 (rulL K' B' S' st' rb tb tm td tu')) := hR3
      have HR4 : Hid (Row (((w.alloc (.cells #[.int .i64 K, .int .i64 B, .int .i64 S, .int .i64 (s : Nat), .int .i64 (r : Nat), .slice ta tn tc, .string tu] 24)).alloc (.cells #[.int .i64 K', .int .i64 B', .int .i64 S', .int .i64 st', .int .i64 rb, .slice tb tm td, .string tu'] 24)).alloc (.cells #[.int .i64 0, .int .i64 0, .int .i64 0, .int .i64 0, .int .i64 0, .slice none 0 0, .string ⟨#[]⟩] 24)) (w.heap.size + 1 + 1) 24 noRul) := hR4
      have HB : Hid (Below w.heap.size w (((w.alloc (.cells #[.int .i64 K, .int .i64 B, .int .i64 S, .int .i64 (s : Nat), .int .i64 (r : Nat), .slice ta tn tc, .string tu] 24)).alloc (.cells #[.int .i64 K', .int .i64 B', .int .i64 S', .int .i64 st', .int .i64 rb, .slice tb tm td, .string tu'] 24)).alloc (.cells #[.int .i64 0, .int .i64 0, .int .i64 0, .int .i64 0, .int .i64 0, .slice none 0 0, .string ⟨#[]⟩] 24))) := hB
      clear hR2 hR3 hR4 hB
      generalize ((w.alloc (.cells #[.int .i64 K, .int .i64 B, .int .i64 S, .int .i64 (s : Nat), .int .i64 (r : Nat), .slice ta tn tc, .string tu] 24)).alloc (.cells #[.int .i64 K', .int .i64 B', .int .i64 S', .int .i64 st', .int .i64 rb, .slice tb tm td, .string tu'] 24)).alloc (.cells #[.int .i64 0, .int .i64 0, .int .i64 0, .int .i64 0, .int .i64 0, .slice none 0 0, .string ⟨#[]⟩] 24) = w1 at *
      have l2 := row_range HR2.out
      go_wp2_with (refine wpList_load_mid rfl 24 _ rfl w.heap.size 0 rfl _ _ l2 Tryd.underlying24 rfl infoRule ?_)
      clear l2
      refine (HCA.out _ HB.out).mono ?_
      rintro e1 w2 ⟨rfl, hb2⟩
      have HR2 := Lib.hid (HR2.out.keep hb2 HR2.out.lt)
      have HR3 := Lib.hid (HR3.out.keep hb2 HR3.out.lt)
      have HR4 := Lib.hid (HR4.out.keep hb2 HR4.out.lt)
      have HB := Lib.hid (HB.out.trans (hb2.mono HB.out.size))
      clear hb2
      have HF := Lib.hid hf
      clear hf
      rw [HA.out, errV_zero rfl]
      have l3 := row_range HR3.out
      go_wp2_with (refine wpList_load_mid rfl 24 _ rfl (w.heap.size + 1) 0 rfl _ _ l3 Tryd.underlying24 rfl infoRule ?_)
      clear l3
      refine (HCB.out _ HB.out).mono ?_
      rintro e1 w3 ⟨rfl, hb3⟩
      have HR2 := Lib.hid (HR2.out.keep hb3 HR2.out.lt)
      have HR3 := Lib.hid (HR3.out.keep hb3 HR3.out.lt)
      have HR4 := Lib.hid (HR4.out.keep hb3 HR4.out.lt)
      have HB := Lib.hid (HB.out.trans (hb3.mono HB.out.size))
      clear hb3
      rw [HF.out, errV_some h0]
      go_wp2_with (refine Ops.wpList_store_arr rfl 24 _ _ rfl (w.heap.size + 1 + 1) rfl 24 _ noRul rfl HR4.out rfl infoRule noRul_one ?_; intro w9 hrow9 hon9)
      exact bodyPost_ret (results_comp _ _ hrow9 rfl) rfl ⟨rfl, HB.out.trans (hon9.below (by omega))⟩
  · rw [if_pos (by simpa using ha)] at hf
    have HF := Lib.hid hf
    clear hf ha hT hT'
    go_enter Tryd.func10, Tryd.ntmps10
    go_wp2_with fail
    obtain ⟨hR2, hR3, hR4, hB⟩ := three_new w 24 24 24 (rulL K B S st ra ta tn tc tu) (rulL K' B' S' st' rb tb tm td tu') noRul
    have HR2 : Hid (Row (((w.alloc (.cells #[.int .i64 K, .int .i64 B, .int .i64 S, .int .i64 st, .int .i64 ra, .slice ta tn tc, .string tu] 24)).alloc (.cells #[.int .i64 K', .int .i64 B', .int .i64 S', .int .i64 st', .int .i64 rb, .slice tb tm td, .string tu'] 24)).alloc (.cells #[.int .i64 0, .int .i64 0, .int .i64 0, .int .i64 0, .int .i64 0, .slice none 0 0, .string ⟨#[]⟩] 24)) w.heap.size 24 (rulL K B S st ra ta tn tc tu)) := hR2
    have HR3 : Hid (Row (((w.alloc (.cells #[.int .i64 K, .int .i64 B, .int .i64 S, .int .i64 st, .int .i64 ra, .slice ta tn tc, .string tu] 24)).alloc (.cells #[.int .i64 K', .int .i64 B', .int .i64 S', .int .i64 st', .int .i64 rb, .slice tb tm td, .string tu'] 24)).alloc (.cells #[.int .i64 0, .int .i64 0, .int .i64 0, .int .i64 0, .int .i64 0, .slice none 0 0, .string ⟨#[]⟩] 24)) (w.heap.size + 1) 24 (rulL K' B' S' st' rb tb tm td tu')) := hR3
    have HR4 : Hid (Row (((w.alloc (.cells #[.int .i64 K, .int .i64 B, .int .i64 S, .int .i64 st, .int .i64 ra, .slice ta tn tc, .string tu] 24)).alloc (.cells #[.int .i64 K', .int .i64 B', .int .i64 S', .int .i64 st', .int .i64 rb, .slice tb tm td, .string tu'] 24)).alloc (.cells #[.int .i64 0, .int .i64 0, .int .i64 0, .int .i64 0, .int .i64 0, .slice none 0 0, .string ⟨#[]⟩] 24)) (w.heap.size + 1 + 1) 24 noRul) := hR4
    have HB : Hid (Below w.heap.size w (((w.alloc (.cells #[.int .i64 K, .int .i64 B, .int .i64 S, .int .i64 st, .int .i64 ra, .slice ta tn tc, .string tu] 24)).alloc (.cells #[.int .i64 K', .int .i64 B', .int .i64 S', .int .i64 st', .int .i64 rb, .slice tb tm td, .string tu'] 24)).alloc (.cells #[.int .i64 0, .int .i64 0, .int .i64 0, .int .i64 0, .int .i64 0, .slice none 0 0, .string ⟨#[]⟩] 24))) := hB
    clear hR2 hR3 hR4 hB
    generalize ((w.alloc (.cells #[.int .i64 K, .int .i64 B, .int .i64 S, .int .i64 st, .int .i64 ra, .slice ta tn tc, .string tu] 24)).alloc (.cells #[.int .i64 K', .int .i64 B', .int .i64 S', .int .i64 st', .int .i64 rb, .slice tb tm td, .string tu'] 24)).alloc (.cells #[.int .i64 0, .int .i64 0, .int .i64 0, .int .i64 0, .int .i64 0, .slice none 0 0, .string ⟨#[]⟩] 24) = w1 at *
    have l2 := row_range HR2.out
    go_wp2_with (refine wpList_load_mid rfl 24 _ rfl w.heap.size 0 rfl _ _ l2 Tryd.underlying24 rfl infoRule ?_)
    clear l2
    refine (HCA.out _ HB.out).mono ?_
    rintro e1 w2 ⟨rfl, hb2⟩
    have HR2 := Lib.hid (HR2.out.keep hb2 HR2.out.lt)
    have HR3 := Lib.hid (HR3.out.keep hb2 HR3.out.lt)
    have HR4 := Lib.hid (HR4.out.keep hb2 HR4.out.lt)
    have HB := Lib.hid (HB.out.trans (hb2.mono HB.out.size))
    clear hb2
    rw [HF.out, errV_some h0]
    go_wp2_with (refine Ops.wpList_store_arr rfl 24 _ _ rfl (w.heap.size + 1 + 1) rfl 24 _ noRul rfl HR4.out rfl infoRule noRul_one ?_; intro w9 hrow9 hon9)
    exact bodyPost_ret (results_comp _ _ hrow9 rfl) rfl ⟨rfl, HB.out.trans (hon9.below (by omega))⟩
set_option maxHeartbeats 8000000 in
set_option maxRecDepth 1000000 in
theorem compose_ok (K B S : Int) (st ra : Nat) (ta : Option Addr) (tn tc : Nat) (tz : List Int) (tu : ByteArray) (K' B' S' : Int) (rb : Nat) (tb : Option Addr) (tm td : Nat) (tz' : List Int) (tu' : ByteArray) (w : World) (hT : Ints.Is w ta tn tz) (hu : tu.size ≤ 9223372036854775807) (hT' : Ints.Is w tb tm tz') (hu' : tu'.size ≤ 9223372036854775807) (ha : lfault K B S st ra tz tu = 0) (hb : lfault K' B' S' st rb tz' tu' = 0) (N : Nat) (hN : N = st ^ (2 * (ra + rb) + 1)) (hN4 : N ≤ 4096) :
    Calls Tryd.prog 10 #[.agg #[.int .i64 K, .int .i64 B, .int .i64 S, .int .i64 st, .int .i64 ra, .slice ta tn tc, .string tu], .agg #[.int .i64 K', .int .i64 B', .int .i64 S', .int .i64 st, .int .i64 rb, .slice tb tm td, .string tu']] w fun e w' => (∃ g, e = .returned (.tuple #[.agg (rulL 2 0 0 st (ra + rb : Nat) (some ⟨g, 0, none⟩) N N ⟨#[]⟩).toArray, .nilIface]) ∧ w.heap.size ≤ g ∧ Ints.Is w' (some ⟨g, 0, none⟩) N (lst N (comp (wf tz) (wf tz') st ra rb))) ∧ Below w.heap.size w w' := by
  have HCA := Lib.hid (fun w2 (h2 : Below w.heap.size w w2) => check_any K B S st ra ta tn tc tz tu w2 (hT.keep h2) hu)
  have HCB := Lib.hid (fun w2 (h2 : Below w.heap.size w w2) => check_any K' B' S' st rb tb tm td tz' tu' w2 (hT'.keep h2) hu')
  unfold rulL at HCA HCB
  obtain ⟨s, r, hs, hr', h2, h4, hr5, htn, htl, htz⟩ := (lfault_01 ha).nat hT.len
  obtain rfl : st = s := by omega
  obtain rfl : ra = r := by omega
  obtain ⟨s', r', hs', hr'', h2', h4', hr5', htn', htl', htz'⟩ := (lfault_01 hb).nat hT'.len
  obtain rfl : st = s' := by omega
  obtain rfl : rb = r' := by omega
  have HA := Lib.hid ha
  have HBB := Lib.hid hb
  obtain ⟨rr, hrr⟩ : ∃ rr, rr = ra + rb := ⟨_, rfl⟩
  have hri : (ra : Int) + (rb : Int) = (rr : Int) := by omega
  have HSZ := Lib.hid (fun w2 => size_any (st := st) (ra := rr) h2 h4 (by omega) w2)
  rw [hrr, sz_pos (by omega), ← hN, ← hrr] at HSZ
  have hrr5 : rr ≤ 5 := rad5 h2 (by rw [hrr]; omega)
  have hN0 : ¬ N = 0 := by have := Nat.pow_pos (n := 2 * (ra + rb) + 1) (show 0 < st by omega); omega
  have HTB : Hid (∀ (w3 : World), Below w.heap.size w w3 → Row w3 w.heap.size 24 (rulL K B S st ra ta tn tc tu) → Row w3 (w.heap.size + 1) 24 (rulL K' B' S' st rb tb tm td tu') → Calls Tryd.prog 29 #[.int .i64 st, .int .i64 rr, .func (.func 30) #[] #[.pointer (some ⟨w.heap.size + 1, 0, none⟩), .pointer (some ⟨w.heap.size, 0, none⟩)]] w3 fun e w' => (∃ g, e = .returned (.agg (rulL 2 0 0 st rr (some ⟨g, 0, none⟩) N N ⟨#[]⟩).toArray) ∧ w3.heap.size ≤ g ∧ Ints.Is w' (some ⟨g, 0, none⟩) N (lst N (comp (wf tz) (wf tz') st ra rb))) ∧ Below w3.heap.size w3 w') := fun w3 hb3 hq hp => by
    rw [hrr]
    refine ctable_any st (ra + rb) N _ _ (comp (wf tz) (wf tz') st ra rb) w3 h2 h4 (by omega) hN hN4 fun w2 hb2 i hi g hg => ?_
    have hb4 := hb3.trans (hb2.mono hb3.size)
    exact compose1_any K B S K' B' S' st ra rb ta tb tn tc tm td tz tz' tu tu' _ _ g i w2 ⟨hT.keep hb4, h2, h4, hr5, htn, htl, htz⟩ ⟨hT'.keep hb4, h2, h4, hr5', htn', htl', htz'⟩ (hp.keep hb2 hp.lt) (hq.keep hb2 hq.lt) hg
  have HT := Lib.hid hT
  clear ha hb hT hT' htz htz' htn htn' hs hr' hs' hr'' hN hu hu'
  rw [← hrr]
  clear hrr
  go_enter Tryd.func10, Tryd.ntmps10
  go_wp2_with fail
  obtain ⟨hR2, hR3, hR4, hB⟩ := three_new w 24 24 24 (rulL K B S st ra ta tn tc tu) (rulL K' B' S' st rb tb tm td tu') noRul
  have HR2 : Hid (Row (((w.alloc (.cells #[.int .i64 K, .int .i64 B, .int .i64 S, .int .i64 st, .int .i64 ra, .slice ta tn tc, .string tu] 24)).alloc (.cells #[.int .i64 K', .int .i64 B', .int .i64 S', .int .i64 st, .int .i64 rb, .slice tb tm td, .string tu'] 24)).alloc (.cells #[.int .i64 0, .int .i64 0, .int .i64 0, .int .i64 0, .int .i64 0, .slice none 0 0, .string ⟨#[]⟩] 24)) w.heap.size 24 (rulL K B S st ra ta tn tc tu)) := hR2
  have HR3 : Hid (Row (((w.alloc (.cells #[.int .i64 K, .int .i64 B, .int .i64 S, .int .i64 st, .int .i64 ra, .slice ta tn tc, .string tu] 24)).alloc (.cells #[.int .i64 K', .int .i64 B', .int .i64 S', .int .i64 st, .int .i64 rb, .slice tb tm td, .string tu'] 24)).alloc (.cells #[.int .i64 0, .int .i64 0, .int .i64 0, .int .i64 0, .int .i64 0, .slice none 0 0, .string ⟨#[]⟩] 24)) (w.heap.size + 1) 24 (rulL K' B' S' st rb tb tm td tu')) := hR3
  have HR4 : Hid (Row (((w.alloc (.cells #[.int .i64 K, .int .i64 B, .int .i64 S, .int .i64 st, .int .i64 ra, .slice ta tn tc, .string tu] 24)).alloc (.cells #[.int .i64 K', .int .i64 B', .int .i64 S', .int .i64 st, .int .i64 rb, .slice tb tm td, .string tu'] 24)).alloc (.cells #[.int .i64 0, .int .i64 0, .int .i64 0, .int .i64 0, .int .i64 0, .slice none 0 0, .string ⟨#[]⟩] 24)) (w.heap.size + 1 + 1) 24 noRul) := hR4
  have HB : Hid (Below w.heap.size w (((w.alloc (.cells #[.int .i64 K, .int .i64 B, .int .i64 S, .int .i64 st, .int .i64 ra, .slice ta tn tc, .string tu] 24)).alloc (.cells #[.int .i64 K', .int .i64 B', .int .i64 S', .int .i64 st, .int .i64 rb, .slice tb tm td, .string tu'] 24)).alloc (.cells #[.int .i64 0, .int .i64 0, .int .i64 0, .int .i64 0, .int .i64 0, .slice none 0 0, .string ⟨#[]⟩] 24))) := hB
  clear hR2 hR3 hR4 hB
  generalize ((w.alloc (.cells #[.int .i64 K, .int .i64 B, .int .i64 S, .int .i64 st, .int .i64 ra, .slice ta tn tc, .string tu] 24)).alloc (.cells #[.int .i64 K', .int .i64 B', .int .i64 S', .int .i64 st, .int .i64 rb, .slice tb tm td, .string tu'] 24)).alloc (.cells #[.int .i64 0, .int .i64 0, .int .i64 0, .int .i64 0, .int .i64 0, .slice none 0 0, .string ⟨#[]⟩] 24) = w1 at *
  have l2 := row_range HR2.out
  go_wp2_with (refine wpList_load_mid rfl 24 _ rfl w.heap.size 0 rfl _ _ l2 Tryd.underlying24 rfl infoRule ?_)
  clear l2
  refine (HCA.out _ HB.out).mono ?_
  rintro e1 w2 ⟨rfl, hb2⟩
  have HR2 := Lib.hid (HR2.out.keep hb2 HR2.out.lt)
  have HR3 := Lib.hid (HR3.out.keep hb2 HR3.out.lt)
  have HR4 := Lib.hid (HR4.out.keep hb2 HR4.out.lt)
  have HB := Lib.hid (HB.out.trans (hb2.mono HB.out.size))
  clear hb2
  rw [HA.out, errV_zero rfl]
  have l3 := row_range HR3.out
  go_wp2_with (refine wpList_load_mid rfl 24 _ rfl (w.heap.size + 1) 0 rfl _ _ l3 Tryd.underlying24 rfl infoRule ?_)
  clear l3
  refine (HCB.out _ HB.out).mono ?_
  rintro e1 w3 ⟨rfl, hb3⟩
  have HR2 := Lib.hid (HR2.out.keep hb3 HR2.out.lt)
  have HR3 := Lib.hid (HR3.out.keep hb3 HR3.out.lt)
  have HR4 := Lib.hid (HR4.out.keep hb3 HR4.out.lt)
  have HB := Lib.hid (HB.out.trans (hb3.mono HB.out.size))
  clear hb3
  rw [HBB.out, errV_zero rfl]
  have f3 := HR2.out.cell 3
  have f4 := HR2.out.cell 4
  unfold rulL at f3 f4
  dsimp only [List.getElem?_cons_succ, List.getElem?_cons_zero] at f3 f4
  have g3 := HR3.out.cell 3
  have g4 := HR3.out.cell 4
  unfold rulL at g3 g4
  dsimp only [List.getElem?_cons_succ, List.getElem?_cons_zero] at g3 g4
  go_wp2_with fail
  refine (HSZ.out _).mono ?_
  rintro e1 w4 ⟨rfl, rfl⟩
  go_wp2_with fail
  refine (HTB.out _ HB.out HR2.out HR3.out).mono ?_
  rintro e1 w4 ⟨⟨g, rfl, hgw, hI⟩, hb4⟩
  have hgne : g ≠ w.heap.size + 1 + 1 := by have := HR4.out.lt; omega
  have HKI := Lib.hid (fun (w5 : World) (h5 : Only (w.heap.size + 1 + 1) w4 w5) => is_other hI h5 hgne)
  have hgw2 : w.heap.size ≤ g := Nat.le_trans HB.out.size hgw
  clear f3 f4 g3 g4 HR2 HR3 hgne hgw hI
  have HR4 := Lib.hid (HR4.out.keep hb4 HR4.out.lt)
  have HB := Lib.hid (HB.out.trans (hb4.mono HB.out.size))
  clear hb4
  go_wp2_with (refine Ops.wpList_store_arr rfl 24 _ _ rfl (w.heap.size + 1 + 1) rfl 24 _ (rulL 2 0 0 st rr (some ⟨g, 0, none⟩) N N ⟨#[]⟩) rfl HR4.out rfl infoRule (rul_one _ _ _ _ _ _ _ _ _) ?_; intro w9 hrow9 hon9)
  exact bodyPost_ret (results_comp _ _ hrow9 rfl) rfl ⟨⟨g, rfl, hgw2, HKI.out w9 hon9⟩, HB.out.trans (hon9.below (by omega))⟩
set_option maxHeartbeats 8000000 in
set_option maxRecDepth 1000000 in
theorem widen_bad (K B S st ra : Int) (ta : Option Addr) (tn tc : Nat) (tz : List Int) (tu : ByteArray) (S' : Int) (f : Int) (w : World) (hT : Ints.Is w ta tn tz) (hu : tu.size ≤ 9223372036854775807) (hf : dfault K B S st ra tz tu S' = f) (h0 : f ≠ 0) :
    Calls Tryd.prog 11 #[.agg #[.int .i64 K, .int .i64 B, .int .i64 S, .int .i64 st, .int .i64 ra, .slice ta tn tc, .string tu], .int .i64 S'] w fun e w' => e = .returned (.tuple #[.agg noRul.toArray, .iface 53 (.int .i64 f)]) ∧ Below w.heap.size w w' := by
  have HCA := Lib.hid (fun w2 (h2 : Below w.heap.size w w2) => check_any K B S st ra ta tn tc tz tu w2 (hT.keep h2) hu)
  unfold rulL at HCA
  unfold dfault at hf
  by_cases ha : lfault K B S st ra tz tu = 0
  · rw [if_neg (by simp [ha])] at hf
    obtain ⟨s, r, hs, hr', h2, h4, hr5, htn, htl, htz⟩ := (lfault_01 ha).nat hT.len
    obtain rfl := hs
    obtain rfl := hr'
    have HA := Lib.hid ha
    clear ha hT htz htn
    by_cases hlr : S' < (r : Int)
    · rw [if_pos hlr] at hf
      obtain rfl : f = 1 := hf.symm
      clear hf h0
      go_enter Tryd.func11, Tryd.ntmps11
      go_wp2_with fail
      obtain ⟨hR2, hR4, hB⟩ := two_new w 24 24 (rulL K B S s r ta tn tc tu) noRul
      have HR2 : Hid (Row ((w.alloc (.cells #[.int .i64 K, .int .i64 B, .int .i64 S, .int .i64 (s : Nat), .int .i64 (r : Nat), .slice ta tn tc, .string tu] 24)).alloc (.cells #[.int .i64 0, .int .i64 0, .int .i64 0, .int .i64 0, .int .i64 0, .slice none 0 0, .string ⟨#[]⟩] 24)) w.heap.size 24 (rulL K B S s r ta tn tc tu)) := hR2
      have HR4 : Hid (Row ((w.alloc (.cells #[.int .i64 K, .int .i64 B, .int .i64 S, .int .i64 (s : Nat), .int .i64 (r : Nat), .slice ta tn tc, .string tu] 24)).alloc (.cells #[.int .i64 0, .int .i64 0, .int .i64 0, .int .i64 0, .int .i64 0, .slice none 0 0, .string ⟨#[]⟩] 24)) (w.heap.size + 1) 24 noRul) := hR4
      have HB : Hid (Below w.heap.size w ((w.alloc (.cells #[.int .i64 K, .int .i64 B, .int .i64 S, .int .i64 (s : Nat), .int .i64 (r : Nat), .slice ta tn tc, .string tu] 24)).alloc (.cells #[.int .i64 0, .int .i64 0, .int .i64 0, .int .i64 0, .int .i64 0, .slice none 0 0, .string ⟨#[]⟩] 24))) := hB
      clear hR2 hR4 hB
      generalize (w.alloc (.cells #[.int .i64 K, .int .i64 B, .int .i64 S, .int .i64 (s : Nat), .int .i64 (r : Nat), .slice ta tn tc, .string tu] 24)).alloc (.cells #[.int .i64 0, .int .i64 0, .int .i64 0, .int .i64 0, .int .i64 0, .slice none 0 0, .string ⟨#[]⟩] 24) = w1 at *
      have l2 := row_range HR2.out
      go_wp2_with (refine wpList_load_mid rfl 24 _ rfl w.heap.size 0 rfl _ _ l2 Tryd.underlying24 rfl infoRule ?_)
      clear l2
      refine (HCA.out _ HB.out).mono ?_
      rintro e1 w2 ⟨rfl, hb2⟩
      have HR2 := Lib.hid (HR2.out.keep hb2 HR2.out.lt)
      have HR4 := Lib.hid (HR4.out.keep hb2 HR4.out.lt)
      have HB := Lib.hid (HB.out.trans (hb2.mono HB.out.size))
      clear hb2
      rw [HA.out, errV_zero rfl]
      have f4 := HR2.out.cell 4
      unfold rulL at f4
      dsimp only [List.getElem?_cons_succ, List.getElem?_cons_zero] at f4
      go_wp2_with (refine Ops.wpList_store_arr rfl 24 _ _ rfl (w.heap.size + 1) rfl 24 _ noRul rfl HR4.out rfl infoRule noRul_one ?_; intro w9 hrow9 hon9)
      exact bodyPost_ret (results_wide _ _ hrow9 rfl) rfl ⟨rfl, HB.out.trans (hon9.below (by omega))⟩
    · rw [if_neg hlr] at hf
      obtain ⟨q, rfl⟩ := Int.eq_ofNat_of_zero_le (show 0 ≤ S' by omega)
      by_cases hbig : 4096 < (q : Int)
      · rw [if_pos (.inl hbig)] at hf
        obtain rfl : f = 4 := hf.symm
        clear hf h0
        go_enter Tryd.func11, Tryd.ntmps11
        go_wp2_with fail
        obtain ⟨hR2, hR4, hB⟩ := two_new w 24 24 (rulL K B S s r ta tn tc tu) noRul
        have HR2 : Hid (Row ((w.alloc (.cells #[.int .i64 K, .int .i64 B, .int .i64 S, .int .i64 (s : Nat), .int .i64 (r : Nat), .slice ta tn tc, .string tu] 24)).alloc (.cells #[.int .i64 0, .int .i64 0, .int .i64 0, .int .i64 0, .int .i64 0, .slice none 0 0, .string ⟨#[]⟩] 24)) w.heap.size 24 (rulL K B S s r ta tn tc tu)) := hR2
        have HR4 : Hid (Row ((w.alloc (.cells #[.int .i64 K, .int .i64 B, .int .i64 S, .int .i64 (s : Nat), .int .i64 (r : Nat), .slice ta tn tc, .string tu] 24)).alloc (.cells #[.int .i64 0, .int .i64 0, .int .i64 0, .int .i64 0, .int .i64 0, .slice none 0 0, .string ⟨#[]⟩] 24)) (w.heap.size + 1) 24 noRul) := hR4
        have HB : Hid (Below w.heap.size w ((w.alloc (.cells #[.int .i64 K, .int .i64 B, .int .i64 S, .int .i64 (s : Nat), .int .i64 (r : Nat), .slice ta tn tc, .string tu] 24)).alloc (.cells #[.int .i64 0, .int .i64 0, .int .i64 0, .int .i64 0, .int .i64 0, .slice none 0 0, .string ⟨#[]⟩] 24))) := hB
        clear hR2 hR4 hB
        generalize (w.alloc (.cells #[.int .i64 K, .int .i64 B, .int .i64 S, .int .i64 (s : Nat), .int .i64 (r : Nat), .slice ta tn tc, .string tu] 24)).alloc (.cells #[.int .i64 0, .int .i64 0, .int .i64 0, .int .i64 0, .int .i64 0, .slice none 0 0, .string ⟨#[]⟩] 24) = w1 at *
        have l2 := row_range HR2.out
        go_wp2_with (refine wpList_load_mid rfl 24 _ rfl w.heap.size 0 rfl _ _ l2 Tryd.underlying24 rfl infoRule ?_)
        clear l2
        refine (HCA.out _ HB.out).mono ?_
        rintro e1 w2 ⟨rfl, hb2⟩
        have HR2 := Lib.hid (HR2.out.keep hb2 HR2.out.lt)
        have HR4 := Lib.hid (HR4.out.keep hb2 HR4.out.lt)
        have HB := Lib.hid (HB.out.trans (hb2.mono HB.out.size))
        clear hb2
        rw [HA.out, errV_zero rfl]
        have f4 := HR2.out.cell 4
        unfold rulL at f4
        dsimp only [List.getElem?_cons_succ, List.getElem?_cons_zero] at f4
        go_wp2_with (refine Ops.wpList_store_arr rfl 24 _ _ rfl (w.heap.size + 1) rfl 24 _ noRul rfl HR4.out rfl infoRule noRul_one ?_; intro w9 hrow9 hon9)
        exact bodyPost_ret (results_wide _ _ hrow9 rfl) rfl ⟨rfl, HB.out.trans (hon9.below (by omega))⟩
      · have hlt : 4096 < s ^ (2 * q + 1) ∧ f = 4 := by
          rw [Int.toNat_natCast, Int.toNat_natCast] at hf
          by_cases hl : 4096 < s ^ (2 * q + 1)
          · rw [if_pos (.inr hl)] at hf; exact ⟨hl, hf.symm⟩
          · rw [if_neg (by rintro (h | h) <;> omega)] at hf; exact absurd hf.symm h0
        obtain ⟨hlt, rfl⟩ := hlt
        clear hf h0
        have HSZ := Lib.hid (fun w2 => size_any (st := s) (ra := q) h2 h4 (by omega) w2)
        rw [sz_zero hlt] at HSZ
        clear hlt
        go_enter Tryd.func11, Tryd.ntmps11
        go_wp2_with fail
        obtain ⟨hR2, hR4, hB⟩ := two_new w 24 24 (rulL K B S s r ta tn tc tu) noRul
        have HR2 : Hid (Row ((w.alloc (.cells #[.int .i64 K, .int .i64 B, .int .i64 S, .int .i64 (s : Nat), .int .i64 (r : Nat), .slice ta tn tc, .string tu] 24)).alloc (.cells #[.int .i64 0, .int .i64 0, .int .i64 0, .int .i64 0, .int .i64 0, .slice none 0 0, .string ⟨#[]⟩] 24)) w.heap.size 24 (rulL K B S s r ta tn tc tu)) := hR2
        have HR4 : Hid (Row ((w.alloc (.cells #[.int .i64 K, .int .i64 B, .int .i64 S, .int .i64 (s : Nat), .int .i64 (r : Nat), .slice ta tn tc, .string tu] 24)).alloc (.cells #[.int .i64 0, .int .i64 0, .int .i64 0, .int .i64 0, .int .i64 0, .slice none 0 0, .string ⟨#[]⟩] 24)) (w.heap.size + 1) 24 noRul) := hR4
        have HB : Hid (Below w.heap.size w ((w.alloc (.cells #[.int .i64 K, .int .i64 B, .int .i64 S, .int .i64 (s : Nat), .int .i64 (r : Nat), .slice ta tn tc, .string tu] 24)).alloc (.cells #[.int .i64 0, .int .i64 0, .int .i64 0, .int .i64 0, .int .i64 0, .slice none 0 0, .string ⟨#[]⟩] 24))) := hB
        clear hR2 hR4 hB
        generalize (w.alloc (.cells #[.int .i64 K, .int .i64 B, .int .i64 S, .int .i64 (s : Nat), .int .i64 (r : Nat), .slice ta tn tc, .string tu] 24)).alloc (.cells #[.int .i64 0, .int .i64 0, .int .i64 0, .int .i64 0, .int .i64 0, .slice none 0 0, .string ⟨#[]⟩] 24) = w1 at *
        have l2 := row_range HR2.out
        go_wp2_with (refine wpList_load_mid rfl 24 _ rfl w.heap.size 0 rfl _ _ l2 Tryd.underlying24 rfl infoRule ?_)
        clear l2
        refine (HCA.out _ HB.out).mono ?_
        rintro e1 w2 ⟨rfl, hb2⟩
        have HR2 := Lib.hid (HR2.out.keep hb2 HR2.out.lt)
        have HR4 := Lib.hid (HR4.out.keep hb2 HR4.out.lt)
        have HB := Lib.hid (HB.out.trans (hb2.mono HB.out.size))
        clear hb2
        rw [HA.out, errV_zero rfl]
        have f3 := HR2.out.cell 3
        have f4 := HR2.out.cell 4
        unfold rulL at f3 f4
        dsimp only [List.getElem?_cons_succ, List.getElem?_cons_zero] at f3 f4
        go_wp2_with fail
        refine (HSZ.out _).mono ?_
        rintro e1 w4 ⟨rfl, rfl⟩
        go_wp2_with (refine Ops.wpList_store_arr rfl 24 _ _ rfl (w.heap.size + 1) rfl 24 _ noRul rfl HR4.out rfl infoRule noRul_one ?_; intro w9 hrow9 hon9)
        exact bodyPost_ret (results_wide _ _ hrow9 rfl) rfl ⟨rfl, HB.out.trans (hon9.below (by omega))⟩
  · rw [if_pos (by simpa using ha)] at hf
    have HF := Lib.hid hf
    clear hf ha hT
    go_enter Tryd.func11, Tryd.ntmps11
    go_wp2_with fail
    obtain ⟨hR2, hR4, hB⟩ := two_new w 24 24 (rulL K B S st ra ta tn tc tu) noRul
    have HR2 : Hid (Row ((w.alloc (.cells #[.int .i64 K, .int .i64 B, .int .i64 S, .int .i64 st, .int .i64 ra, .slice ta tn tc, .string tu] 24)).alloc (.cells #[.int .i64 0, .int .i64 0, .int .i64 0, .int .i64 0, .int .i64 0, .slice none 0 0, .string ⟨#[]⟩] 24)) w.heap.size 24 (rulL K B S st ra ta tn tc tu)) := hR2
    have HR4 : Hid (Row ((w.alloc (.cells #[.int .i64 K, .int .i64 B, .int .i64 S, .int .i64 st, .int .i64 ra, .slice ta tn tc, .string tu] 24)).alloc (.cells #[.int .i64 0, .int .i64 0, .int .i64 0, .int .i64 0, .int .i64 0, .slice none 0 0, .string ⟨#[]⟩] 24)) (w.heap.size + 1) 24 noRul) := hR4
    have HB : Hid (Below w.heap.size w ((w.alloc (.cells #[.int .i64 K, .int .i64 B, .int .i64 S, .int .i64 st, .int .i64 ra, .slice ta tn tc, .string tu] 24)).alloc (.cells #[.int .i64 0, .int .i64 0, .int .i64 0, .int .i64 0, .int .i64 0, .slice none 0 0, .string ⟨#[]⟩] 24))) := hB
    clear hR2 hR4 hB
    generalize (w.alloc (.cells #[.int .i64 K, .int .i64 B, .int .i64 S, .int .i64 st, .int .i64 ra, .slice ta tn tc, .string tu] 24)).alloc (.cells #[.int .i64 0, .int .i64 0, .int .i64 0, .int .i64 0, .int .i64 0, .slice none 0 0, .string ⟨#[]⟩] 24) = w1 at *
    have l2 := row_range HR2.out
    go_wp2_with (refine wpList_load_mid rfl 24 _ rfl w.heap.size 0 rfl _ _ l2 Tryd.underlying24 rfl infoRule ?_)
    clear l2
    refine (HCA.out _ HB.out).mono ?_
    rintro e1 w2 ⟨rfl, hb2⟩
    have HR2 := Lib.hid (HR2.out.keep hb2 HR2.out.lt)
    have HR4 := Lib.hid (HR4.out.keep hb2 HR4.out.lt)
    have HB := Lib.hid (HB.out.trans (hb2.mono HB.out.size))
    clear hb2
    rw [HF.out, errV_some h0]
    go_wp2_with (refine Ops.wpList_store_arr rfl 24 _ _ rfl (w.heap.size + 1) rfl 24 _ noRul rfl HR4.out rfl infoRule noRul_one ?_; intro w9 hrow9 hon9)
    exact bodyPost_ret (results_wide _ _ hrow9 rfl) rfl ⟨rfl, HB.out.trans (hon9.below (by omega))⟩
set_option maxHeartbeats 8000000 in
set_option maxRecDepth 1000000 in
theorem widen_ok (K B S : Int) (st ra : Nat) (ta : Option Addr) (tn tc : Nat) (tz : List Int) (tu : ByteArray) (q : Nat) (w : World) (hT : Ints.Is w ta tn tz) (hu : tu.size ≤ 9223372036854775807) (ha : lfault K B S st ra tz tu = 0) (hq : ra ≤ q) (N : Nat) (hN : N = st ^ (2 * q + 1)) (hN4 : N ≤ 4096) :
    Calls Tryd.prog 11 #[.agg #[.int .i64 K, .int .i64 B, .int .i64 S, .int .i64 st, .int .i64 ra, .slice ta tn tc, .string tu], .int .i64 q] w fun e w' => (∃ g, e = .returned (.tuple #[.agg (rulL 2 0 0 st q (some ⟨g, 0, none⟩) N N ⟨#[]⟩).toArray, .nilIface]) ∧ w.heap.size ≤ g ∧ Ints.Is w' (some ⟨g, 0, none⟩) N (lst N (wide (wf tz) st ra q))) ∧ Below w.heap.size w w' := by
  have HCA := Lib.hid (fun w2 (h2 : Below w.heap.size w w2) => check_any K B S st ra ta tn tc tz tu w2 (hT.keep h2) hu)
  unfold rulL at HCA
  obtain ⟨s, r, hs, hr', h2, h4, hr5, htn, htl, htz⟩ := (lfault_01 ha).nat hT.len
  obtain rfl : st = s := by omega
  obtain rfl : ra = r := by omega
  have HA := Lib.hid ha
  have hq5 : q ≤ 5 := rad5 h2 (by omega)
  have HSZ := Lib.hid (fun w2 => size_any (st := st) (ra := q) h2 h4 (by omega) w2)
  rw [sz_pos (by omega), ← hN] at HSZ
  have hN0 : ¬ N = 0 := by have := Nat.pow_pos (n := 2 * q + 1) (show 0 < st by omega); omega
  obtain ⟨d, hd⟩ : ∃ d, q = ra + d := ⟨q - ra, by omega⟩
  have hdi : (q : Int) - (ra : Int) = (d : Int) := by omega
  have hd5 : d ≤ 5 := by omega
  have hq96 : ¬ (4096 : Int) < (q : Int) := by omega
  have hNb : ((N : Int) == 0) = false := by rw [beq_eq_false_iff_ne]; omega
  have hqra : ¬ (q : Int) < (ra : Int) := by omega
  have HTB : Hid (∀ (w3 : World) (g : Nat), Below w.heap.size w w3 → Row w3 w.heap.size 24 (rulL K B S st ra ta tn tc tu) → Row w3 g 3 [.int .i64 d] → Calls Tryd.prog 29 #[.int .i64 st, .int .i64 q, .func (.func 32) #[] #[.pointer (some ⟨w.heap.size, 0, none⟩), .pointer (some ⟨g, 0, none⟩)]] w3 fun e w' => (∃ g, e = .returned (.agg (rulL 2 0 0 st q (some ⟨g, 0, none⟩) N N ⟨#[]⟩).toArray) ∧ w3.heap.size ≤ g ∧ Ints.Is w' (some ⟨g, 0, none⟩) N (lst N (wide (wf tz) st ra q))) ∧ Below w3.heap.size w3 w') := fun w3 g hb3 hp hq => by
    refine wtable_any st q N _ _ (wide (wf tz) st ra q) w3 h2 h4 hq5 hN hN4 fun w2 hb2 i hi g2 hg => ?_
    have hb4 := hb3.trans (hb2.mono hb3.size)
    rw [hd] at hg ⊢
    exact widen1_any K B S st ra d _ ta tn tc tz tu _ _ g2 i w2 ⟨hT.keep hb4, h2, h4, hr5, htn, htl, htz⟩ hd5 rfl (hp.keep hb2 hp.lt) (hq.keep hb2 hq.lt) hg
  have HT := Lib.hid hT
  clear ha hT htz htn hs hr' hN hu hd
  go_enter Tryd.func11, Tryd.ntmps11
  go_wp2_with fail
  obtain ⟨hR2, hR4, hB⟩ := two_new w 24 24 (rulL K B S st ra ta tn tc tu) noRul
  have HR2 : Hid (Row ((w.alloc (.cells #[.int .i64 K, .int .i64 B, .int .i64 S, .int .i64 (st : Nat), .int .i64 (ra : Nat), .slice ta tn tc, .string tu] 24)).alloc (.cells #[.int .i64 0, .int .i64 0, .int .i64 0, .int .i64 0, .int .i64 0, .slice none 0 0, .string ⟨#[]⟩] 24)) w.heap.size 24 (rulL K B S st ra ta tn tc tu)) := hR2
  have HR4 : Hid (Row ((w.alloc (.cells #[.int .i64 K, .int .i64 B, .int .i64 S, .int .i64 (st : Nat), .int .i64 (ra : Nat), .slice ta tn tc, .string tu] 24)).alloc (.cells #[.int .i64 0, .int .i64 0, .int .i64 0, .int .i64 0, .int .i64 0, .slice none 0 0, .string ⟨#[]⟩] 24)) (w.heap.size + 1) 24 noRul) := hR4
  have HB : Hid (Below w.heap.size w ((w.alloc (.cells #[.int .i64 K, .int .i64 B, .int .i64 S, .int .i64 (st : Nat), .int .i64 (ra : Nat), .slice ta tn tc, .string tu] 24)).alloc (.cells #[.int .i64 0, .int .i64 0, .int .i64 0, .int .i64 0, .int .i64 0, .slice none 0 0, .string ⟨#[]⟩] 24))) := hB
  clear hR2 hR4 hB
  generalize (w.alloc (.cells #[.int .i64 K, .int .i64 B, .int .i64 S, .int .i64 (st : Nat), .int .i64 (ra : Nat), .slice ta tn tc, .string tu] 24)).alloc (.cells #[.int .i64 0, .int .i64 0, .int .i64 0, .int .i64 0, .int .i64 0, .slice none 0 0, .string ⟨#[]⟩] 24) = w1 at *
  have l2 := row_range HR2.out
  go_wp2_with (refine wpList_load_mid rfl 24 _ rfl w.heap.size 0 rfl _ _ l2 Tryd.underlying24 rfl infoRule ?_)
  clear l2
  refine (HCA.out _ HB.out).mono ?_
  rintro e1 w2 ⟨rfl, hb2⟩
  have HR2 := Lib.hid (HR2.out.keep hb2 HR2.out.lt)
  have HR4 := Lib.hid (HR4.out.keep hb2 HR4.out.lt)
  have HB := Lib.hid (HB.out.trans (hb2.mono HB.out.size))
  clear hb2
  rw [HA.out, errV_zero rfl]
  have f3 := HR2.out.cell 3
  have f4 := HR2.out.cell 4
  unfold rulL at f3 f4
  dsimp only [List.getElem?_cons_succ, List.getElem?_cons_zero] at f3 f4
  go_wp2_with fail
  refine (HSZ.out _).mono ?_
  rintro e1 w4 ⟨rfl, rfl⟩
  go_upto_region 9 with fail
  have h7a := row_alloc w4 3 [.int .i64 (d : Nat)]
  have H7 : Hid (Row (w4.alloc (.cells #[.int .i64 (d : Nat)] 3)) w4.heap.size 3 [.int .i64 (d : Nat)]) := h7a
  have hb4 : Below w4.heap.size w4 (w4.alloc (.cells #[.int .i64 (d : Nat)] 3)) := (Below.refl _ _).alloc (Nat.le_refl _) _
  clear h7a f3 f4
  have HR2 := Lib.hid (HR2.out.keep hb4 HR2.out.lt)
  have HR4 := Lib.hid (HR4.out.keep hb4 HR4.out.lt)
  have HB := Lib.hid (HB.out.trans (hb4.mono HB.out.size))
  clear hb4
  generalize w4.alloc (.cells #[.int .i64 (d : Nat)] 3) = w5 at *
  have f3 := HR2.out.cell 3
  have f4 := HR2.out.cell 4
  unfold rulL at f3 f4
  dsimp only [List.getElem?_cons_succ, List.getElem?_cons_zero] at f3 f4
  go_wp2_with fail
  refine (HTB.out _ _ HB.out HR2.out H7.out).mono ?_
  rintro e1 w6 ⟨⟨g, rfl, hgw, hI⟩, hb4⟩
  have hgne : g ≠ w.heap.size + 1 := by have := HR4.out.lt; omega
  have HKI := Lib.hid (fun (w7 : World) (h5 : Only (w.heap.size + 1) w6 w7) => is_other hI h5 hgne)
  have hgw2 : w.heap.size ≤ g := Nat.le_trans HB.out.size hgw
  clear f3 f4 HR2 H7 hgne hgw hI
  have HR4 := Lib.hid (HR4.out.keep hb4 HR4.out.lt)
  have HB := Lib.hid (HB.out.trans (hb4.mono HB.out.size))
  clear hb4
  go_wp2_with (refine Ops.wpList_store_arr rfl 24 _ _ rfl (w.heap.size + 1) rfl 24 _ (rulL 2 0 0 st q (some ⟨g, 0, none⟩) N N ⟨#[]⟩) rfl HR4.out rfl infoRule (rul_one _ _ _ _ _ _ _ _ _) ?_; intro w9 hrow9 hon9)
  exact bodyPost_ret (results_wide _ _ hrow9 rfl) rfl ⟨⟨g, rfl, hgw2, HKI.out w9 hon9⟩, HB.out.trans (hon9.below (by omega))⟩
end Ln
end Go.Proofs.YtgefikkklbjcbaaDoor
