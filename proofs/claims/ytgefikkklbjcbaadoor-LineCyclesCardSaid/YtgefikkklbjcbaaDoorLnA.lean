/- WALK: edenref2.cell, Apply, Step: what becomes of a word, by the document. -/
import Derived.Test.YtgefikkklbjcbaaDoorLnC
import Derived.Deep.RegionWith
import Derived.Deep.MidRow
namespace Go.Proofs.YtgefikkklbjcbaaDoor
set_option linter.unusedSimpArgs false
set_option linter.unusedVariables false
open Go.RowKit
namespace Ln
open Tld Mem

theorem row_grown2 {w w' : World} {B : Nat} {e T : TypeId} {v : Value} {n p : Nat} {xs cs : List Value} (h : w.ownsRow B e 1 v n xs) (hg : w.grownBy w' v.ownBlock) (hR : Row w p T cs) (hp : p < B) : Row w' p T cs :=
  (hg.block p hR.lt (fun x => by have := own_low h p x.symm; omega)).trans hR
theorem row_grown3 {w w' : World} {B : Nat} {e T : TypeId} {v : Value} {n p : Nat} {xs cs : List Value} (h : w.ownsRow B e 1 v n xs) (hg : w.grownBy w' v.ownBlock) (hR : Row w p T cs) (hp : v.ownBlock ≠ some p) : Row w' p T cs :=
  (hg.block p hR.lt (fun x => hp x.symm)).trans hR
/-- The number in a box. -/
def boxI (w : World) (v : Value) : Nat := match v with
  | .pointer (some a) => (intOf ((w.cell? a).getD undef)).toNat
  | _ => 0
theorem boxI_row {w : World} {b : Nat} {T : TypeId} {z : Int} (h : Row w b T [.int .i64 z]) : boxI w (.pointer (some ⟨b, 0, none⟩)) = z.toNat := by
  show (intOf ((w.cell? ⟨b, 0, none⟩).getD undef)).toNat = z.toNat
  rw [h.cell]
  rfl
theorem ix_pos {n R j : Nat} (h : 0 < n) (hq : 0 ≤ ((j : Int) - (R : Int)).tmod (n : Int)) : ((j : Int) - (R : Int)).tmod (n : Int) = ((ix n R j : Nat) : Int) := by
  obtain ⟨q, h1, h2, h3, h4⟩ := ix_tmod (n := n) (R := R) (j := j) h
  rw [h1] at hq ⊢
  rw [← h4, Int.tmod_eq_emod_of_nonneg (by omega), Int.add_emod_right, Int.emod_eq_of_lt hq h3]
theorem ix_neg {n R j : Nat} (h : 0 < n) (hq : ((j : Int) - (R : Int)).tmod (n : Int) < 0) : ((j : Int) - (R : Int)).tmod (n : Int) + (n : Int) = ((ix n R j : Nat) : Int) := by
  obtain ⟨q, h1, h2, h3, h4⟩ := ix_tmod (n := n) (R := R) (j := j) h
  rw [h1] at hq ⊢
  rw [← h4, Int.tmod_eq_emod_of_nonneg (by omega), Int.emod_eq_of_lt (by omega) (by omega)]
set_option maxHeartbeats 1000000 in
theorem apply1_any (p q : Nat) (wa : Option Addr) (wn wc : Nat) (wz : List Int) (i x : Nat) (k : Int) (w : World) (hx : (i : Int) + k = (x : Int)) (hi : i ≤ 100000) (hxn : x < wn) (hp : w.cell? ⟨p, 0, none⟩ = some (.slice wa wn wc)) (hq : w.cell? ⟨q, 0, none⟩ = some (.int .i64 (i : Int))) (hW : Ints.Is w wa wn wz) (hn : wn ≤ 100000) :
    Calls Tryd.prog 40 #[.int .i64 k, .pointer (some ⟨p, 0, none⟩), .pointer (some ⟨q, 0, none⟩)] w fun e w' => e = .returned (.int .i64 (wz.getD x 0)) ∧ w' = w := by
  obtain ⟨bw, off, rfl, hbw, hc⟩ := hW.cells x hxn
  dsimp only at hc
  clear hW
  generalize wz.getD x 0 = z at *
  go_enter Tryd.func40, Tryd.ntmps40
  go_wp2_with fail
  go_ret
  exact ⟨rfl, rfl⟩
set_option maxHeartbeats 1000000 in
theorem step1_any (p q s : Nat) (wa : Option Addr) (wn wc : Nat) (wz : List Int) (i j R : Nat) (w : World) (h0 : 0 < wn) (hi : i ≤ 100000) (hj : j ≤ 100) (hR : R ≤ 100) (hp : w.cell? ⟨p, 0, none⟩ = some (.int .i64 (i : Int))) (hq : w.cell? ⟨q, 0, none⟩ = some (.int .i64 (wn : Int))) (hs : w.cell? ⟨s, 0, none⟩ = some (.slice wa wn wc)) (hW : Ints.Is w wa wn wz) (hn : wn ≤ 100000) :
    Calls Tryd.prog 39 #[.int .i64 ((j : Int) - (R : Int)), .pointer (some ⟨p, 0, none⟩), .pointer (some ⟨q, 0, none⟩), .pointer (some ⟨s, 0, none⟩)] w fun e w' => e = .returned (.int .i64 (wz.getD (ix wn R (i + j)) 0)) ∧ w' = w := by
  have hx := ix_lt (n := wn) (R := R) (j := i + j) h0
  obtain ⟨bw, off, rfl, hbw, hc⟩ := hW.cells _ hx
  dsimp only at hc
  have hb0 : ((wn : Int) == 0) = false := by rw [beq_eq_false_iff_ne]; omega
  have hsum : (i : Int) + ((j : Int) - (R : Int)) = ((i + j : Nat) : Int) - (R : Int) := by omega
  have hp1 := fun h => ix_pos (n := wn) (R := R) (j := i + j) h0 h
  have hp2 := fun h => ix_neg (n := wn) (R := R) (j := i + j) h0 h
  obtain ⟨q', hq1, hq2, hq3, _⟩ := ix_tmod (n := wn) (R := R) (j := i + j) h0
  rw [← hsum] at hp1 hp2 hq1
  rw [hq1] at hp1 hp2
  clear hW hsum
  generalize ix wn R (i + j) = x at *
  generalize wz.getD x 0 = z at *
  have HP1 := Lib.hid hp1
  have HP2 := Lib.hid hp2
  clear hp1 hp2
  by_cases hn0 : q' < 0
  · have he := HP2.out hn0
    have dn0 : decide (q' < 0) = true := decide_eq_true hn0
    go_enter Tryd.func39, Tryd.ntmps39
    go_wp2_with fail
    go_ret
    exact ⟨rfl, rfl⟩
  · have he := HP1.out (by omega)
    have dn0 : decide (q' < 0) = false := decide_eq_false hn0
    subst he
    go_enter Tryd.func39, Tryd.ntmps39
    go_wp2_with fail
    go_ret
    exact ⟨rfl, rfl⟩
set_option maxHeartbeats 8000000 in
set_option maxRecDepth 1000000 in
theorem cell_ap (K B S : Int) (st ra : Nat) (ta : Option Addr) (tn tc : Nat) (tz : List Int) (tu : ByteArray) (p q : Nat) (f : Nat → Nat) (w : World) (h : RulIs w st ra ta tn tz) (hf : ∀ k, f k < st)
    (hF : ∀ (w2 : World), Below w.heap.size w w2 → ∀ j : Nat, j < 2 * ra + 1 → Calls Tryd.prog 40 #[.int .i64 ((j : Int) - (ra : Int)), .pointer (some ⟨p, 0, none⟩), .pointer (some ⟨q, 0, none⟩)] w2 fun e w' => e = .returned (.int .i64 (f j : Nat)) ∧ w' = w2) :
    Calls Tryd.prog 38 #[.agg #[.int .i64 K, .int .i64 B, .int .i64 S, .int .i64 st, .int .i64 ra, .slice ta tn tc, .string tu], .func (.func 40) #[] #[.pointer (some ⟨p, 0, none⟩), .pointer (some ⟨q, 0, none⟩)]] w fun e w' => e = .returned (.int .i64 (wf tz (win st (2 * ra + 1) f) : Nat)) ∧ Below w.heap.size w w' := by
  have h2 := h.st2
  have h4 := h.st4
  have hr5 := h.ra5
  have hle := h.le
  have HF := Lib.hid hF
  have HFL := Lib.hid hf
  have HTN := Lib.hid h.len
  have HTV := Lib.hid (wf_at (zs := tz) fun z hz => (h.tz z hz).1)
  have HTL := Lib.hid (fun k => h.lt k)
  have HT := Lib.hid h.is
  obtain ⟨ww, hww⟩ : ∃ ww, ww = 2 * ra + 1 := ⟨_, rfl⟩
  rw [← hww] at HF HTN ⊢
  have hw11 : ww ≤ 11 := by omega
  have HWW := Lib.hid hww
  clear hf hF h hww
  go_enter Tryd.func38, Tryd.ntmps38
  go_upto_region 2 with fail
  obtain ⟨hR, hB⟩ := row_rule w K B S st ra ta tn tc tu
  have HR : Hid (Row (w.alloc (.cells #[.int .i64 K, .int .i64 B, .int .i64 S, .int .i64 st, .int .i64 ra, .slice ta tn tc, .string tu] 24)) w.heap.size 24 (rulL K B S st ra ta tn tc tu)) := hR
  have HB : Hid (Below w.heap.size w (w.alloc (.cells #[.int .i64 K, .int .i64 B, .int .i64 S, .int .i64 st, .int .i64 ra, .slice ta tn tc, .string tu] 24))) := hB
  clear hR hB
  generalize w.alloc (.cells #[.int .i64 K, .int .i64 B, .int .i64 S, .int .i64 st, .int .i64 ra, .slice ta tn tc, .string tu] 24) = w1 at *
  have f3 := HR.out.cell 3
  have f4 := HR.out.cell 4
  have f5 := HR.out.cell 5
  unfold rulL at f3 f4 f5
  dsimp only [List.getElem?_cons_succ, List.getElem?_cons_zero] at f3 f4 f5
  go_wp2_with fail
  go_loop [5, 6] (fun u v => ∃ j : Nat, j ≤ ww ∧ v = .int .i64 ((j : Int) - (ra : Int)) ∧ u = .int .i64 (win st j f : Nat)) (fun _ v => ww - (intOf v + ra).toNat)
  case atStart => exact ⟨0, Nat.zero_le _, by simp, rfl⟩
  case round =>
    obtain ⟨j, hj, rfl, rfl⟩ := hrel
    have hwlt : win st j f < st ^ j := win_lt fun k _ => HFL.out k
    by_cases hlt : j < ww
    · have hcl := HFL.out j
      have hcond : (j : Int) - (ra : Int) ≤ (ra : Int) := by have := HWW.out; omega
      have hpk : st ^ j * st ≤ tn := by
        rw [HTN.out, ← Nat.pow_succ]
        exact Nat.pow_le_pow_right (by omega) (by omega)
      have hmul : (win st j f + 1) * st ≤ st ^ j * st := Nat.mul_le_mul_right st hwlt
      rw [Nat.succ_mul] at hmul
      have HN : Hid (win st (j + 1) f = win st j f * st + f j) := rfl
      have HCALL := Lib.hid (fun w2 hb => HF.out w2 hb j hlt)
      generalize hnn : win st (j + 1) f = nn at *
      have HNN := Lib.hid hnn
      clear hnn
      generalize win st j f = n at *
      generalize f j = cv at *
      obtain ⟨pr, hpr⟩ : ∃ pr, pr = n * st := ⟨_, rfl⟩
      have hwp : IntKind.i64.wrap ((n : Int) * (st : Int)) = (pr : Int) := by
        rw [show ((n : Int) * (st : Int)) = ((n * st : Nat) : Int) from by push_cast; rfl, ← hpr, IntKind.wrap_i64]; omega
      have hpr1 : pr ≤ 4096 := by omega
      rw [← hpr] at HN
      clear hmul hpr hwlt hpk
      go_wp2_with fail
      refine (HCALL.out _ HB.out).mono ?_
      rintro e2 w2 ⟨rfl, rfl⟩
      go_wp2_with fail
      go_round
      case rel => exact ⟨j + 1, by omega, by rw [show ((j + 1 : Nat) : Int) - (ra : Int) = (j : Int) - (ra : Int) + 1 from by omega], by rw [HNN.out, HN.out]; push_cast; rfl⟩
      case measure => simp [intOf]; omega
    · have ek : j = ww := by omega
      subst ek
      have hcond : ¬ ((j : Int) - (ra : Int) ≤ (ra : Int)) := by have := HWW.out; omega
      have hnt : win st j f < tn := by rw [HTN.out]; exact hwlt
      obtain ⟨bt, ot, rfl, _, hct⟩ := (HT.out.keep HB.out).cells _ hnt
      dsimp only at hct
      rw [HTV.out] at hct
      have htv := HTL.out (win st j f)
      obtain ⟨tv, hTV⟩ : ∃ tv, tv = wf tz (win st j f) := ⟨_, rfl⟩
      rw [← hTV] at hct htv
      have HTE := Lib.hid hTV
      clear hwlt hj hTV
      generalize hnn : win st j f = nn at *
      have HNN := Lib.hid hnn
      clear hnn
      go_wp2_with fail
      go_ret
      exact ⟨congrArg (fun z : Nat => Ending.returned (.int .i64 z)) (by rw [HNN.out]; exact HTE.out), HB.out⟩
set_option maxHeartbeats 8000000 in
set_option maxRecDepth 1000000 in
theorem cell_st (K B S : Int) (st ra : Nat) (ta : Option Addr) (tn tc : Nat) (tz : List Int) (tu : ByteArray) (p q s : Nat) (f : Nat → Nat) (w : World) (h : RulIs w st ra ta tn tz) (hf : ∀ k, f k < st)
    (hF : ∀ (w2 : World), Below w.heap.size w w2 → ∀ j : Nat, j < 2 * ra + 1 → Calls Tryd.prog 39 #[.int .i64 ((j : Int) - (ra : Int)), .pointer (some ⟨p, 0, none⟩), .pointer (some ⟨q, 0, none⟩), .pointer (some ⟨s, 0, none⟩)] w2 fun e w' => e = .returned (.int .i64 (f j : Nat)) ∧ w' = w2) :
    Calls Tryd.prog 38 #[.agg #[.int .i64 K, .int .i64 B, .int .i64 S, .int .i64 st, .int .i64 ra, .slice ta tn tc, .string tu], .func (.func 39) #[] #[.pointer (some ⟨p, 0, none⟩), .pointer (some ⟨q, 0, none⟩), .pointer (some ⟨s, 0, none⟩)]] w fun e w' => e = .returned (.int .i64 (wf tz (win st (2 * ra + 1) f) : Nat)) ∧ Below w.heap.size w w' := by
  have h2 := h.st2
  have h4 := h.st4
  have hr5 := h.ra5
  have hle := h.le
  have HF := Lib.hid hF
  have HFL := Lib.hid hf
  have HTN := Lib.hid h.len
  have HTV := Lib.hid (wf_at (zs := tz) fun z hz => (h.tz z hz).1)
  have HTL := Lib.hid (fun k => h.lt k)
  have HT := Lib.hid h.is
  obtain ⟨ww, hww⟩ : ∃ ww, ww = 2 * ra + 1 := ⟨_, rfl⟩
  rw [← hww] at HF HTN ⊢
  have hw11 : ww ≤ 11 := by omega
  have HWW := Lib.hid hww
  clear hf hF h hww
  go_enter Tryd.func38, Tryd.ntmps38
  go_upto_region 2 with fail
  obtain ⟨hR, hB⟩ := row_rule w K B S st ra ta tn tc tu
  have HR : Hid (Row (w.alloc (.cells #[.int .i64 K, .int .i64 B, .int .i64 S, .int .i64 st, .int .i64 ra, .slice ta tn tc, .string tu] 24)) w.heap.size 24 (rulL K B S st ra ta tn tc tu)) := hR
  have HB : Hid (Below w.heap.size w (w.alloc (.cells #[.int .i64 K, .int .i64 B, .int .i64 S, .int .i64 st, .int .i64 ra, .slice ta tn tc, .string tu] 24))) := hB
  clear hR hB
  generalize w.alloc (.cells #[.int .i64 K, .int .i64 B, .int .i64 S, .int .i64 st, .int .i64 ra, .slice ta tn tc, .string tu] 24) = w1 at *
  have f3 := HR.out.cell 3
  have f4 := HR.out.cell 4
  have f5 := HR.out.cell 5
  unfold rulL at f3 f4 f5
  dsimp only [List.getElem?_cons_succ, List.getElem?_cons_zero] at f3 f4 f5
  go_wp2_with fail
  go_loop [5, 6] (fun u v => ∃ j : Nat, j ≤ ww ∧ v = .int .i64 ((j : Int) - (ra : Int)) ∧ u = .int .i64 (win st j f : Nat)) (fun _ v => ww - (intOf v + ra).toNat)
  case atStart => exact ⟨0, Nat.zero_le _, by simp, rfl⟩
  case round =>
    obtain ⟨j, hj, rfl, rfl⟩ := hrel
    have hwlt : win st j f < st ^ j := win_lt fun k _ => HFL.out k
    by_cases hlt : j < ww
    · have hcl := HFL.out j
      have hcond : (j : Int) - (ra : Int) ≤ (ra : Int) := by have := HWW.out; omega
      have hpk : st ^ j * st ≤ tn := by
        rw [HTN.out, ← Nat.pow_succ]
        exact Nat.pow_le_pow_right (by omega) (by omega)
      have hmul : (win st j f + 1) * st ≤ st ^ j * st := Nat.mul_le_mul_right st hwlt
      rw [Nat.succ_mul] at hmul
      have HN : Hid (win st (j + 1) f = win st j f * st + f j) := rfl
      have HCALL := Lib.hid (fun w2 hb => HF.out w2 hb j hlt)
      generalize hnn : win st (j + 1) f = nn at *
      have HNN := Lib.hid hnn
      clear hnn
      generalize win st j f = n at *
      generalize f j = cv at *
      obtain ⟨pr, hpr⟩ : ∃ pr, pr = n * st := ⟨_, rfl⟩
      have hwp : IntKind.i64.wrap ((n : Int) * (st : Int)) = (pr : Int) := by
        rw [show ((n : Int) * (st : Int)) = ((n * st : Nat) : Int) from by push_cast; rfl, ← hpr, IntKind.wrap_i64]; omega
      have hpr1 : pr ≤ 4096 := by omega
      rw [← hpr] at HN
      clear hmul hpr hwlt hpk
      go_wp2_with fail
      refine (HCALL.out _ HB.out).mono ?_
      rintro e2 w2 ⟨rfl, rfl⟩
      go_wp2_with fail
      go_round
      case rel => exact ⟨j + 1, by omega, by rw [show ((j + 1 : Nat) : Int) - (ra : Int) = (j : Int) - (ra : Int) + 1 from by omega], by rw [HNN.out, HN.out]; push_cast; rfl⟩
      case measure => simp [intOf]; omega
    · have ek : j = ww := by omega
      subst ek
      have hcond : ¬ ((j : Int) - (ra : Int) ≤ (ra : Int)) := by have := HWW.out; omega
      have hnt : win st j f < tn := by rw [HTN.out]; exact hwlt
      obtain ⟨bt, ot, rfl, _, hct⟩ := (HT.out.keep HB.out).cells _ hnt
      dsimp only at hct
      rw [HTV.out] at hct
      have htv := HTL.out (win st j f)
      obtain ⟨tv, hTV⟩ : ∃ tv, tv = wf tz (win st j f) := ⟨_, rfl⟩
      rw [← hTV] at hct htv
      have HTE := Lib.hid hTV
      clear hwlt hj hTV
      generalize hnn : win st j f = nn at *
      have HNN := Lib.hid hnn
      clear hnn
      go_wp2_with fail
      go_ret
      exact ⟨congrArg (fun z : Nat => Ending.returned (.int .i64 z)) (by rw [HNN.out]; exact HTE.out), HB.out⟩

set_option maxHeartbeats 8000000 in
set_option maxRecDepth 1000000 in
theorem apply2_any (K B S : Int) (st ra : Nat) (ta : Option Addr) (tn tc : Nat) (tz : List Int) (tu : ByteArray) (wa : Option Addr) (wn wc : Nat) (wz : List Int) (w : World) (h : RulIs w st ra ta tn tz) (hW : Ints.Is w wa wn wz) (hwz : ∀ z ∈ wz, 0 ≤ z ∧ z < (st : Int)) (hwn : wn ≤ 10000) :
    Calls Tryd.prog 23 #[.agg #[.int .i64 K, .int .i64 B, .int .i64 S, .int .i64 st, .int .i64 ra, .slice ta tn tc, .string tu], .slice wa wn wc] w fun e w' => (∃ v', e = .returned v' ∧ w'.ownsRow w.heap.size 3 1 v' (wn - 2 * ra) ((applyL (wf tz) st ra wz).map (Value.int .i64))) ∧ Below w.heap.size w w' := by
  obtain ⟨i0, hI0, hz0, hz1, hz2⟩ := info_parts infoIntN
  have HI0 := Lib.hid hI0
  have HZ0 := Lib.hid hz0
  have HZ1 := Lib.hid hz1
  have HZ2 := Lib.hid hz2
  have h2 := h.st2
  have hr5 := h.ra5
  have HL : Hid (applyL (wf tz) st ra wz = lst (wn - 2 * ra) (app (wf tz) st ra (wf wz))) := by
    show applyL (wf tz) st ra wz = _
    unfold applyL
    rw [hW.len]
  have HWL := Lib.hid (wf_lt (st := st) (by omega) hwz)
  have HWV := Lib.hid (wf_at (zs := wz) fun z hz => (hwz z hz).1)
  have HCELL : Hid (∀ (wr : World) (b q i : Nat), Below w.heap.size w wr → Row wr b 3 [.int .i64 ((ra : Int) + (i : Int))] → Row wr q 22 [.slice wa wn wc] → i < wn - 2 * ra → Calls Tryd.prog 38 #[.agg #[.int .i64 K, .int .i64 B, .int .i64 S, .int .i64 st, .int .i64 ra, .slice ta tn tc, .string tu], .func (.func 40) #[] #[.pointer (some ⟨q, 0, none⟩), .pointer (some ⟨b, 0, none⟩)]] wr fun e w' => e = .returned (.int .i64 (app (wf tz) st ra (wf wz) i : Nat)) ∧ Below wr.heap.size wr w') := fun wr b q i hb hi hs hlt => by
    refine cell_ap K B S st ra ta tn tc tz tu q b (fun k => wf wz (i + k)) wr (h.keep hb) (fun k => HWL.out _) fun w2 hb2 j hj => ?_
    have hI := hi.keep hb2 hi.lt
    have hS := hs.keep hb2 hs.lt
    refine (apply1_any q b wa wn wc wz (ra + i) (i + j) _ w2 (by omega) (by omega) (by omega) (hS.cell 0) ((hI.cell 0).trans (by rw [show ((ra + i : Nat) : Int) = (ra : Int) + (i : Int) from by omega]; rfl)) ((hW.keep hb).keep hb2) (by omega)).mono ?_
    rintro e w' ⟨rfl, rfl⟩
    exact ⟨by rw [HWV.out], rfl⟩
  obtain ⟨m, hm⟩ : ∃ m, m = wn - 2 * ra := ⟨_, rfl⟩
  have HM : Hid (∀ i : Nat, i < m ↔ (ra : Int) + (i : Int) + (ra : Int) < (wn : Int)) := fun i => by omega
  rw [← hm] at HL HCELL ⊢
  have hm1 : m ≤ wn := by omega
  rw [HL.out]
  generalize app (wf tz) st ra (wf wz) = F at *
  clear hI0 hz0 hz1 hz2 hW hwz h hm HL HWL HWV
  go_enter Tryd.func23, Tryd.ntmps23
  go_upto_region 2 with fail
  obtain ⟨hR, hS, hB⟩ := two_new w 24 22 (rulL K B S st ra ta tn tc tu) [.slice wa wn wc]
  have HR : Hid (Row ((w.alloc (.cells #[.int .i64 K, .int .i64 B, .int .i64 S, .int .i64 st, .int .i64 ra, .slice ta tn tc, .string tu] 24)).alloc (.cells #[.slice wa wn wc] 22)) w.heap.size 24 (rulL K B S st ra ta tn tc tu)) := hR
  have HS : Hid (Row ((w.alloc (.cells #[.int .i64 K, .int .i64 B, .int .i64 S, .int .i64 st, .int .i64 ra, .slice ta tn tc, .string tu] 24)).alloc (.cells #[.slice wa wn wc] 22)) (w.heap.size + 1) 22 [.slice wa wn wc]) := hS
  have HB : Hid (Below w.heap.size w ((w.alloc (.cells #[.int .i64 K, .int .i64 B, .int .i64 S, .int .i64 st, .int .i64 ra, .slice ta tn tc, .string tu] 24)).alloc (.cells #[.slice wa wn wc] 22))) := hB
  clear hR hS hB
  generalize (w.alloc (.cells #[.int .i64 K, .int .i64 B, .int .i64 S, .int .i64 st, .int .i64 ra, .slice ta tn tc, .string tu] 24)).alloc (.cells #[.slice wa wn wc] 22) = w1 at *
  obtain ⟨b1, hb1⟩ : ∃ b1, b1 = w.heap.size := ⟨_, rfl⟩
  have HBE := Lib.hid hb1
  rw [← hb1] at HR HS ⊢
  clear hb1
  have f4 := HR.out.cell 4
  have s0 := HS.out.cell 0
  unfold rulL at f4
  dsimp only [List.getElem?_cons_succ, List.getElem?_cons_zero] at f4 s0
  obtain ⟨w2, rfl⟩ : ∃ w2, w2 = w1 := ⟨_, rfl⟩
  go_upto_region 3 with fail
  have HS0 : Hid (b1 + 1 < w2.heap.size) := HS.out.lt
  have hI := row_alloc w2 3 [.int .i64 (ra : Int)]
  have HI : Hid (Row (w2.alloc (.cells #[.int .i64 (ra : Int)] 3)) w2.heap.size 3 [.int .i64 ((ra : Int) + ((0 : Nat) : Int))]) := by rw [show (ra : Int) + ((0 : Nat) : Int) = (ra : Int) from by omega]; exact hI
  have hb3 : Below w2.heap.size w2 (w2.alloc (.cells #[.int .i64 (ra : Int)] 3)) := (Below.refl _ _).alloc (Nat.le_refl _) _
  have HR := Lib.hid (HR.out.keep hb3 HR.out.lt)
  have HS := Lib.hid (HS.out.keep hb3 HS.out.lt)
  have HB := Lib.hid (HB.out.trans (hb3.mono HB.out.size))
  obtain ⟨B1, hB1⟩ : ∃ B1, B1 = w2.heap.size := ⟨_, rfl⟩
  rw [← hB1] at HI ⊢
  have hlt1 : b1 + 1 < B1 := by have := HS0.out; omega
  have hle1 : w.heap.size ≤ B1 := by have := HBE.out; omega
  clear hI hb3 f4 s0 HS0 hB1
  generalize w2.alloc (.cells #[.int .i64 (ra : Int)] 3) = w3 at *
  go_loopw [5, 6] (fun u v wr => ∃ i b : Nat, i ≤ m ∧ v = .pointer (some ⟨b, 0, none⟩) ∧ Row wr b 3 [.int .i64 ((ra : Int) + (i : Int))] ∧ u.ownBlock ≠ some b ∧ wr.ownsRow B1 3 1 u i ((lst i F).map (Value.int .i64)) ∧ Row wr b1 24 (rulL K B S st ra ta tn tc tu) ∧ Row wr (b1 + 1) 22 [.slice wa wn wc] ∧ B1 ≤ b ∧ Below w.heap.size w wr) (fun _ v wr => ra + m - boxI wr v)
  case atStart => exact ⟨0, B1, Nat.zero_le _, rfl, HI.out, by simp [Value.ownBlock], own_nil _ _, HR.out, HS.out, Nat.le_refl _, HB.out⟩
  case round =>
    clear HI HR HS HB
    obtain ⟨i, b, hi, rfl, hI, hne, hown, hR, hS, hBb, hbel⟩ := hrel
    obtain ⟨ao, co, rfl⟩ := own_slice hown
    have HI := Lib.hid hI
    have HNE := Lib.hid hne
    have HO := Lib.hid hown
    have HR := Lib.hid hR
    have HS := Lib.hid hS
    have HB := Lib.hid hbel
    have HBX := Lib.hid (boxI_row hI)
    have g0 := hI.cell 0
    have s0 := hS.cell 0
    have f4 := hR.cell 4
    unfold rulL at f4
    dsimp only [List.getElem?_cons_succ, List.getElem?_cons_zero] at g0 s0 f4 
    clear hI hne hown hR hS hbel 
    by_cases hlt : i < m
    · have hcond := (HM.out i).1 hlt
      have l2 := row_range HR.out
      go_wp2_with (refine wpList_load_mid rfl 24 _ rfl b1 0 rfl _ _ l2 Tryd.underlying24 rfl infoRule ?_)
      clear l2 g0 s0 f4 
      refine (HCELL.out wr b (b1 + 1) i HB.out HI.out HS.out hlt).mono ?_
      rintro e2 w5 ⟨rfl, hb5⟩
      have HI := Lib.hid (HI.out.keep hb5 HI.out.lt)
      have HR := Lib.hid (HR.out.keep hb5 HR.out.lt)
      have HS := Lib.hid (HS.out.keep hb5 HS.out.lt)
      have HO := Lib.hid (own_keep HO.out hb5)
      have HB := Lib.hid (HB.out.trans (hb5.mono HB.out.size))
      clear hb5
      have HSN : Hid ((lst (i + 1) F).map (Value.int .i64) = (lst i F).map (Value.int .i64) ++ [.int .i64 ((F i : Nat) : Int)]) := by
        show (lst (i + 1) F).map (Value.int .i64) = _
        rw [lst_succ, map_snoc]
      generalize F i = tv at *
      have hnew := row_alloc w5 3 [.int .i64 (tv : Int)]
      have hbn : Below w5.heap.size w5 (w5.alloc (.cells [.int .i64 (tv : Int)].toArray 3)) := (Below.refl _ _).alloc (Nat.le_refl _) _
      have HIa := Lib.hid (HI.out.keep hbn HI.out.lt)
      have HRa := Lib.hid (HR.out.keep hbn HR.out.lt)
      have HSa := Lib.hid (HS.out.keep hbn HS.out.lt)
      have HOa := Lib.hid (own_keep HO.out hbn)
      have HBa := Lib.hid (HB.out.trans (hbn.mono HB.out.size))
      have HCEL := Lib.hid (hnew.cell 0)
      have HSZ : Hid (B1 ≤ (w5.alloc (.cells [.int .i64 (tv : Int)].toArray 3)).heap.size) := by
        have := HIa.out.lt
        show B1 ≤ _
        omega
      clear HI HR HS HO HB hnew hbn
      go_wp2_with (at_builtin; refine Ops.wpList_append1 rfl _ _ 22 rfl B1 3 i0 (.int .i64 0) 8 Tryd.underlying22 HI0.out HZ0.out rfl HZ1.out HZ2.out _ i _ rfl HOa.out ⟨w5.heap.size, 0, none⟩ 1 (.int .i64 tv) rfl HCEL.out rfl ?c1 ?c2 HSZ.out ?_)
      case c1 => unfold maxLen; omega
      case c2 => omega
      intro ao' co' w6 hO6 hg6
      have HI6 := Lib.hid (row_grown3 HOa.out hg6 HIa.out HNE.out)
      have HR6 := Lib.hid (row_grown2 HOa.out hg6 HRa.out (by omega))
      have HS6 := Lib.hid (row_grown2 HOa.out hg6 HSa.out (by omega))
      have HB6 := Lib.hid (HBa.out.grown hg6 (Nat.le_trans hle1 HSZ.out) (fun k hk => Nat.le_trans hle1 (own_low HOa.out k hk)))
      rw [← HSN.out] at hO6
      have HO6 := Lib.hid hO6
      clear hO6 hg6 HIa HRa HSa HOa HBa HCEL HSZ HSN HNE 
      have g6 := HI6.out.cell 0
      dsimp only [List.getElem?_cons_zero] at g6
      go_upto_region 4 with fail
      have hI7 := row_alloc w6 3 [.int .i64 ((ra : Int) + (i : Int))]
      have HI7 : Hid (Row (w6.alloc (.cells #[.int .i64 ((ra : Int) + (i : Int))] 3)) w6.heap.size 3 [.int .i64 ((ra : Int) + (i : Int))]) := hI7
      have hb7 : Below w6.heap.size w6 (w6.alloc (.cells #[.int .i64 ((ra : Int) + (i : Int))] 3)) := (Below.refl _ _).alloc (Nat.le_refl _) _
      have HR7 := Lib.hid (HR6.out.keep hb7 HR6.out.lt)
      have HS7 := Lib.hid (HS6.out.keep hb7 HS6.out.lt)
      have HO7 := Lib.hid (own_keep HO6.out hb7)
      have HNE7 : Hid (Value.ownBlock (.slice ao' (i + 1) co') ≠ some w6.heap.size) := fun hx => by
        have := (HO6.out.lt _ hx).2
        omega
      have HB7 := Lib.hid (HB6.out.trans (hb7.mono HB6.out.size))
      have hB7 : B1 ≤ w6.heap.size := by have := HI6.out.lt; omega
      clear hI7 hb7 HI6 HR6 HS6 HO6 HB6 g6 
      obtain ⟨b7, hb7⟩ : ∃ b7, b7 = w6.heap.size := ⟨_, rfl⟩
      rw [← hb7] at HI7 HNE7 hB7 ⊢
      clear hb7
      generalize w6.alloc (.cells #[.int .i64 ((ra : Int) + (i : Int))] 3) = w7 at *
      have g7 := HI7.out.cell 0
      dsimp only [List.getElem?_cons_zero] at g7
      have z7 := HI7.out.frozen 0
      have h8 := HI7.out.set 0 (.int .i64 ((ra : Int) + (i : Int) + 1))
      have o8 := only_setCell w7 b7 0 (.int .i64 ((ra : Int) + (i : Int) + 1))
      have HI8 : Hid (Row (w7.setCell ⟨b7, 0, none⟩ (.int .i64 ((ra : Int) + (i : Int) + 1))) b7 3 [.int .i64 ((ra : Int) + ((i + 1 : Nat) : Int))]) := by
        have e : ((ra : Int) + (i : Int) + 1) = ((ra : Int) + ((i + 1 : Nat) : Int)) := by omega
        rw [← e]; exact h8
      have HO8 := Lib.hid (own_only HO7.out o8 HNE7.out)
      have HR8 := Lib.hid (HR7.out.other o8 (show b1 ≠ b7 by omega))
      have HS8 := Lib.hid (HS7.out.other o8 (show b1 + 1 ≠ b7 by omega))
      have HB8 := Lib.hid (HB7.out.trans (o8.below (show w.heap.size ≤ b7 by omega)))
      have HM8 := Lib.hid (boxI_row HI8.out)
      clear h8 o8
      go_wp2_with fail
      go_roundw
      case rel => exact ⟨i + 1, b7, by omega, rfl, HI8.out, HNE7.out, HO8.out, HR8.out, HS8.out, hB7, HB8.out⟩
      case measure =>
        have e1 := HBX.out
        have e2 := HM8.out
        first | dsimp only | skip
        first | (rw [e1, e2]; omega) | (simp only [e1]; simp; omega)
    · have em : i = m := by omega
      subst em
      have hcond := fun h => hlt ((HM.out i).2 h)
      go_wp2_with fail
      go_ret
      exact ⟨⟨_, rfl, own_base HO.out hle1⟩, HB.out⟩
set_option maxHeartbeats 8000000 in
set_option maxRecDepth 1000000 in
theorem step2_any (K B S : Int) (st ra : Nat) (ta : Option Addr) (tn tc : Nat) (tz : List Int) (tu : ByteArray) (wa : Option Addr) (wn wc : Nat) (wz : List Int) (w : World) (h : RulIs w st ra ta tn tz) (hW : Ints.Is w wa wn wz) (hwz : ∀ z ∈ wz, 0 ≤ z ∧ z < (st : Int)) (hwn : wn ≤ 10000) :
    Calls Tryd.prog 22 #[.agg #[.int .i64 K, .int .i64 B, .int .i64 S, .int .i64 st, .int .i64 ra, .slice ta tn tc, .string tu], .slice wa wn wc] w fun e w' => (∃ v', e = .returned v' ∧ w'.ownsRow w.heap.size 3 1 v' (wn) ((stepL (wf tz) st ra wz).map (Value.int .i64))) ∧ Below w.heap.size w w' := by
  obtain ⟨i0, hI0, hz0, hz1, hz2⟩ := info_parts infoIntN
  have HI0 := Lib.hid hI0
  have HZ0 := Lib.hid hz0
  have HZ1 := Lib.hid hz1
  have HZ2 := Lib.hid hz2
  have h2 := h.st2
  have hr5 := h.ra5
  have HL : Hid (stepL (wf tz) st ra wz = lst (wn) (stp (wf tz) st ra wn (wf wz))) := by
    show stepL (wf tz) st ra wz = _
    unfold stepL
    rw [hW.len]
  have HWL := Lib.hid (wf_lt (st := st) (by omega) hwz)
  have HWV := Lib.hid (wf_at (zs := wz) fun z hz => (hwz z hz).1)
  have HCELL : Hid (∀ (wr : World) (b p q i : Nat), Below w.heap.size w wr → Row wr b 3 [.int .i64 (i : Int)] → Row wr p 3 [.int .i64 (wn : Int)] → Row wr q 22 [.slice wa wn wc] → i < wn → Calls Tryd.prog 38 #[.agg #[.int .i64 K, .int .i64 B, .int .i64 S, .int .i64 st, .int .i64 ra, .slice ta tn tc, .string tu], .func (.func 39) #[] #[.pointer (some ⟨b, 0, none⟩), .pointer (some ⟨p, 0, none⟩), .pointer (some ⟨q, 0, none⟩)]] wr fun e w' => e = .returned (.int .i64 (stp (wf tz) st ra wn (wf wz) i : Nat)) ∧ Below wr.heap.size wr w') := fun wr b p q i hb hi hn hs hlt => by
    refine cell_st K B S st ra ta tn tc tz tu b p q (fun k => wf wz (ix wn ra (i + k))) wr (h.keep hb) (fun k => HWL.out _) fun w2 hb2 j hj => ?_
    have hI := hi.keep hb2 hi.lt
    have hN := hn.keep hb2 hn.lt
    have hS := hs.keep hb2 hs.lt
    refine (step1_any b p q wa wn wc wz i j ra w2 (by omega) (by omega) (by omega) (by omega) (hI.cell 0) (hN.cell 0) (hS.cell 0) ((hW.keep hb).keep hb2) (by omega)).mono ?_
    rintro e w' ⟨rfl, rfl⟩
    exact ⟨by rw [HWV.out], rfl⟩
  have hm : True := trivial
  rw [HL.out]
  generalize stp (wf tz) st ra wn (wf wz) = F at *
  clear hI0 hz0 hz1 hz2 hW hwz h hm HL HWL HWV
  go_enter Tryd.func22, Tryd.ntmps22
  go_upto_region 2 with fail
  obtain ⟨hR, hS, hB⟩ := two_new w 24 22 (rulL K B S st ra ta tn tc tu) [.slice wa wn wc]
  have HR : Hid (Row ((w.alloc (.cells #[.int .i64 K, .int .i64 B, .int .i64 S, .int .i64 st, .int .i64 ra, .slice ta tn tc, .string tu] 24)).alloc (.cells #[.slice wa wn wc] 22)) w.heap.size 24 (rulL K B S st ra ta tn tc tu)) := hR
  have HS : Hid (Row ((w.alloc (.cells #[.int .i64 K, .int .i64 B, .int .i64 S, .int .i64 st, .int .i64 ra, .slice ta tn tc, .string tu] 24)).alloc (.cells #[.slice wa wn wc] 22)) (w.heap.size + 1) 22 [.slice wa wn wc]) := hS
  have HB : Hid (Below w.heap.size w ((w.alloc (.cells #[.int .i64 K, .int .i64 B, .int .i64 S, .int .i64 st, .int .i64 ra, .slice ta tn tc, .string tu] 24)).alloc (.cells #[.slice wa wn wc] 22))) := hB
  clear hR hS hB
  generalize (w.alloc (.cells #[.int .i64 K, .int .i64 B, .int .i64 S, .int .i64 st, .int .i64 ra, .slice ta tn tc, .string tu] 24)).alloc (.cells #[.slice wa wn wc] 22) = w1 at *
  obtain ⟨b1, hb1⟩ : ∃ b1, b1 = w.heap.size := ⟨_, rfl⟩
  have HBE := Lib.hid hb1
  rw [← hb1] at HR HS ⊢
  clear hb1
  have f4 := HR.out.cell 4
  have s0 := HS.out.cell 0
  unfold rulL at f4
  dsimp only [List.getElem?_cons_succ, List.getElem?_cons_zero] at f4 s0
  go_upto_region 3 with fail
  have hN := row_alloc w1 3 [.int .i64 (wn : Int)]
  have HN : Hid (Row (w1.alloc (.cells #[.int .i64 (wn : Int)] 3)) w1.heap.size 3 [.int .i64 (wn : Int)]) := hN
  have hb2 : Below w1.heap.size w1 (w1.alloc (.cells #[.int .i64 (wn : Int)] 3)) := (Below.refl _ _).alloc (Nat.le_refl _) _
  have HR := Lib.hid (HR.out.keep hb2 HR.out.lt)
  have HS := Lib.hid (HS.out.keep hb2 HS.out.lt)
  have HB := Lib.hid (HB.out.trans (hb2.mono HB.out.size))
  have HSZ2 := Lib.hid (HS.out.lt)
  clear hN hb2 f4 s0
  obtain ⟨bN, hbN⟩ : ∃ bN, bN = w1.heap.size := ⟨_, rfl⟩
  rw [← hbN] at HN ⊢
  clear hbN
  generalize w1.alloc (.cells #[.int .i64 (wn : Int)] 3) = w2 at *
  go_upto_region 4 with fail
  have HN0 : Hid (bN < w2.heap.size) := HN.out.lt
  have HS0 : Hid (b1 + 1 < w2.heap.size) := HS.out.lt
  have hI := row_alloc w2 3 [.int .i64 0]
  have HI : Hid (Row (w2.alloc (.cells #[.int .i64 0] 3)) w2.heap.size 3 [.int .i64 ((0 : Nat) : Int)]) := hI
  have hb3 : Below w2.heap.size w2 (w2.alloc (.cells #[.int .i64 0] 3)) := (Below.refl _ _).alloc (Nat.le_refl _) _
  have HR := Lib.hid (HR.out.keep hb3 HR.out.lt)
  have HS := Lib.hid (HS.out.keep hb3 HS.out.lt)
  have HN := Lib.hid (HN.out.keep hb3 HN.out.lt)
  have HB := Lib.hid (HB.out.trans (hb3.mono HB.out.size))
  obtain ⟨B1, hB1⟩ : ∃ B1, B1 = w2.heap.size := ⟨_, rfl⟩
  rw [← hB1] at HI ⊢
  have hlt1 : b1 + 1 < B1 := by have := HS0.out; omega
  have hlt2 : bN < B1 := by have := HN0.out; omega
  have hle1 : w.heap.size ≤ B1 := by have := HBE.out; omega
  clear hI hb3 HN0 HS0 hB1
  generalize w2.alloc (.cells #[.int .i64 0] 3) = w3 at *
  go_loopw [5, 7] (fun u v wr => ∃ i b : Nat, i ≤ wn ∧ v = .pointer (some ⟨b, 0, none⟩) ∧ Row wr b 3 [.int .i64 (i : Int)] ∧ u.ownBlock ≠ some b ∧ wr.ownsRow B1 3 1 u i ((lst i F).map (Value.int .i64)) ∧ Row wr b1 24 (rulL K B S st ra ta tn tc tu) ∧ Row wr (b1 + 1) 22 [.slice wa wn wc] ∧ Row wr bN 3 [.int .i64 (wn : Int)] ∧ B1 ≤ b ∧ Below w.heap.size w wr) (fun _ v wr => wn - boxI wr v)
  case atStart => exact ⟨0, B1, Nat.zero_le _, rfl, HI.out, by simp [Value.ownBlock], own_nil _ _, HR.out, HS.out, HN.out, Nat.le_refl _, HB.out⟩
  case round =>
    clear HI HR HS HB HN
    obtain ⟨i, b, hi, rfl, hI, hne, hown, hR, hS, hN, hBb, hbel⟩ := hrel
    obtain ⟨ao, co, rfl⟩ := own_slice hown
    have HI := Lib.hid hI
    have HNE := Lib.hid hne
    have HO := Lib.hid hown
    have HR := Lib.hid hR
    have HS := Lib.hid hS
    have HN := Lib.hid hN
    have HB := Lib.hid hbel
    have HBX := Lib.hid (boxI_row hI)
    have g0 := hI.cell 0
    have s0 := hS.cell 0
    have n0 := hN.cell 0
    have f4 := hR.cell 4
    unfold rulL at f4
    dsimp only [List.getElem?_cons_succ, List.getElem?_cons_zero] at g0 s0 f4 n0
    clear hI hne hown hR hS hbel hN
    by_cases hlt : i < wn
    · have hcond := hlt
      have l2 := row_range HR.out
      go_wp2_with (refine wpList_load_mid rfl 24 _ rfl b1 0 rfl _ _ l2 Tryd.underlying24 rfl infoRule ?_)
      clear l2 g0 s0 f4 n0
      refine (HCELL.out wr b bN (b1 + 1) i HB.out HI.out HN.out HS.out hlt).mono ?_
      rintro e2 w5 ⟨rfl, hb5⟩
      have HI := Lib.hid (HI.out.keep hb5 HI.out.lt)
      have HR := Lib.hid (HR.out.keep hb5 HR.out.lt)
      have HS := Lib.hid (HS.out.keep hb5 HS.out.lt)
      have HN := Lib.hid (HN.out.keep hb5 HN.out.lt)
      have HO := Lib.hid (own_keep HO.out hb5)
      have HB := Lib.hid (HB.out.trans (hb5.mono HB.out.size))
      clear hb5
      have HSN : Hid ((lst (i + 1) F).map (Value.int .i64) = (lst i F).map (Value.int .i64) ++ [.int .i64 ((F i : Nat) : Int)]) := by
        show (lst (i + 1) F).map (Value.int .i64) = _
        rw [lst_succ, map_snoc]
      generalize F i = tv at *
      have hnew := row_alloc w5 3 [.int .i64 (tv : Int)]
      have hbn : Below w5.heap.size w5 (w5.alloc (.cells [.int .i64 (tv : Int)].toArray 3)) := (Below.refl _ _).alloc (Nat.le_refl _) _
      have HIa := Lib.hid (HI.out.keep hbn HI.out.lt)
      have HRa := Lib.hid (HR.out.keep hbn HR.out.lt)
      have HSa := Lib.hid (HS.out.keep hbn HS.out.lt)
      have HNa := Lib.hid (HN.out.keep hbn HN.out.lt)
      have HOa := Lib.hid (own_keep HO.out hbn)
      have HBa := Lib.hid (HB.out.trans (hbn.mono HB.out.size))
      have HCEL := Lib.hid (hnew.cell 0)
      have HSZ : Hid (B1 ≤ (w5.alloc (.cells [.int .i64 (tv : Int)].toArray 3)).heap.size) := by
        have := HIa.out.lt
        show B1 ≤ _
        omega
      clear HI HR HS HO HB hnew hbn HN
      go_wp2_with (at_builtin; refine Ops.wpList_append1 rfl _ _ 22 rfl B1 3 i0 (.int .i64 0) 8 Tryd.underlying22 HI0.out HZ0.out rfl HZ1.out HZ2.out _ i _ rfl HOa.out ⟨w5.heap.size, 0, none⟩ 1 (.int .i64 tv) rfl HCEL.out rfl ?c1 ?c2 HSZ.out ?_)
      case c1 => unfold maxLen; omega
      case c2 => omega
      intro ao' co' w6 hO6 hg6
      have HI6 := Lib.hid (row_grown3 HOa.out hg6 HIa.out HNE.out)
      have HR6 := Lib.hid (row_grown2 HOa.out hg6 HRa.out (by omega))
      have HS6 := Lib.hid (row_grown2 HOa.out hg6 HSa.out (by omega))
      have HN6 := Lib.hid (row_grown2 HOa.out hg6 HNa.out (by omega))
      have HB6 := Lib.hid (HBa.out.grown hg6 (Nat.le_trans hle1 HSZ.out) (fun k hk => Nat.le_trans hle1 (own_low HOa.out k hk)))
      rw [← HSN.out] at hO6
      have HO6 := Lib.hid hO6
      clear hO6 hg6 HIa HRa HSa HOa HBa HCEL HSZ HSN HNE HNa
      have g6 := HI6.out.cell 0
      dsimp only [List.getElem?_cons_zero] at g6
      go_upto_region 5 with fail
      have hI7 := row_alloc w6 3 [.int .i64 (i : Int)]
      have HI7 : Hid (Row (w6.alloc (.cells #[.int .i64 (i : Int)] 3)) w6.heap.size 3 [.int .i64 (i : Int)]) := hI7
      have hb7 : Below w6.heap.size w6 (w6.alloc (.cells #[.int .i64 (i : Int)] 3)) := (Below.refl _ _).alloc (Nat.le_refl _) _
      have HR7 := Lib.hid (HR6.out.keep hb7 HR6.out.lt)
      have HS7 := Lib.hid (HS6.out.keep hb7 HS6.out.lt)
      have HN7 := Lib.hid (HN6.out.keep hb7 HN6.out.lt)
      have HO7 := Lib.hid (own_keep HO6.out hb7)
      have HNE7 : Hid (Value.ownBlock (.slice ao' (i + 1) co') ≠ some w6.heap.size) := fun hx => by
        have := (HO6.out.lt _ hx).2
        omega
      have HB7 := Lib.hid (HB6.out.trans (hb7.mono HB6.out.size))
      have hB7 : B1 ≤ w6.heap.size := by have := HI6.out.lt; omega
      clear hI7 hb7 HI6 HR6 HS6 HO6 HB6 g6 HN6
      obtain ⟨b7, hb7⟩ : ∃ b7, b7 = w6.heap.size := ⟨_, rfl⟩
      rw [← hb7] at HI7 HNE7 hB7 ⊢
      clear hb7
      generalize w6.alloc (.cells #[.int .i64 (i : Int)] 3) = w7 at *
      have g7 := HI7.out.cell 0
      dsimp only [List.getElem?_cons_zero] at g7
      have z7 := HI7.out.frozen 0
      have h8 := HI7.out.set 0 (.int .i64 ((i : Int) + 1))
      have o8 := only_setCell w7 b7 0 (.int .i64 ((i : Int) + 1))
      have HI8 : Hid (Row (w7.setCell ⟨b7, 0, none⟩ (.int .i64 ((i : Int) + 1))) b7 3 [.int .i64 ((i + 1 : Nat) : Int)]) := by
        have e : ((i : Int) + 1) = ((i + 1 : Nat) : Int) := by omega
        rw [← e]; exact h8
      have HO8 := Lib.hid (own_only HO7.out o8 HNE7.out)
      have HR8 := Lib.hid (HR7.out.other o8 (show b1 ≠ b7 by omega))
      have HS8 := Lib.hid (HS7.out.other o8 (show b1 + 1 ≠ b7 by omega))
      have HN8 := Lib.hid (HN7.out.other o8 (show bN ≠ b7 by omega))
      have HB8 := Lib.hid (HB7.out.trans (o8.below (show w.heap.size ≤ b7 by omega)))
      have HM8 := Lib.hid (boxI_row HI8.out)
      clear h8 o8
      go_wp2_with fail
      go_roundw
      case rel => exact ⟨i + 1, b7, by omega, rfl, HI8.out, HNE7.out, HO8.out, HR8.out, HS8.out, HN8.out, hB7, HB8.out⟩
      case measure =>
        have e1 := HBX.out
        have e2 := HM8.out
        first | dsimp only | skip
        first | (rw [e1, e2]; omega) | (simp only [e1]; simp; omega)
    · have em : i = wn := by omega
      subst em
      have hcond := hlt
      go_wp2_with fail
      go_ret
      exact ⟨⟨_, rfl, own_base HO.out hle1⟩, HB.out⟩
end Ln
end Go.Proofs.YtgefikkklbjcbaaDoor
