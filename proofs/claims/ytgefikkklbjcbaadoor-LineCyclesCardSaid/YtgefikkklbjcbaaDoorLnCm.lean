/- WALK: line.Cycle: when a word comes again, by a map of what was seen. -/
import Derived.Test.YtgefikkklbjcbaaDoorLnKy
import Derived.Maps.OwnSet
import Derived.Maps.OwnOps
import Derived.StringKeys
import Derived.Carry
namespace Go.Proofs.YtgefikkklbjcbaaDoor
set_option linter.unusedSimpArgs false
set_option linter.unusedVariables false
open Go.RowKit
namespace Ln
open Tld Mem

theorem is_map {w w' : World} {a : Option Addr} {n M : Nat} {zs : List Int} {k : TypeId} {R : Value → Option (DataW Nat × List MemPlace)} {m : Nat} {D : DataW Nat} {P : Program} (h : Ints.Is w a n zs) (hm : w.ownsMap P k R M m D) (hg : w.grownBy w' (some M)) : Ints.Is w' a n zs := by
  obtain ⟨es, clock, hb, _⟩ := hm
  refine ⟨h.len, fun i hi => ?_, h.le⟩
  obtain ⟨b, o, e, hlt, hc⟩ := h.cells i hi
  have hne : b ≠ M := fun e2 => by
    subst e2
    simp [World.cell?, hb] at hc
  refine ⟨b, o, e, Nat.lt_of_lt_of_le hlt hg.size, ?_⟩
  rw [World.cell?_of_block (w := w) (hg.block b hlt (fun e2 => hne (Option.some.inj e2)))]
  exact hc
theorem row_map {w w' : World} {b M : Nat} {T : TypeId} {cs : List Value} (h : Row w b T cs) (hg : w.grownBy w' (some M)) (hne : b ≠ M) : Row w' b T cs :=
  (hg.block b h.lt (fun e => hne (Option.some.inj e))).trans h
theorem map_keep {w w' : World} {P : Program} {k : TypeId} {R : Value → Option (DataW Nat × List MemPlace)} {M n : Nat} {D : DataW Nat} (h : w.ownsMap P k R M n D) (hb : Below w.heap.size w w') : w'.ownsMap P k R M n D :=
  h.kept (row := none) ⟨hb.os, hb.tape, hb.output, hb.size, fun k hk _ => hb.block k hk⟩ (by simp)
theorem key_is (zs : List Int) (h : zs.length ≤ 100000) : keyOf Tryd.prog 9 (.string ⟨(kyB zs).toArray⟩) = some (kyL zs) := by
  have := WideMaps.keyOf_string_mk (P := Tryd.prog) Tryd.underlying9 (s := ⟨(kyB zs).toArray⟩) (by simp [ByteArray.size, kyB, maxLen]; omega)
  simpa [kyL] using this
theorem zeroInt (w : World) : (zeroValue 3).run Tryd.prog w = .ok (.int .i64 0) w := by kernel_rfl
set_option maxHeartbeats 8000000 in
set_option maxRecDepth 1000000 in
theorem cycleL_bad (K B S st ra : Int) (ta : Option Addr) (tn tc : Nat) (tz : List Int) (tu : ByteArray) (wa : Option Addr) (wn wc : Nat) (wz : List Int) (f : Int) (w : World) (hT : Ints.Is w ta tn tz) (hu : tu.size ≤ 9223372036854775807) (hW : Ints.Is w wa wn wz) (hf : wfault K B S st ra tz tu wz = f) (h0 : f ≠ 0) :
    Calls Tryd.prog 13 #[.agg #[.int .i64 K, .int .i64 B, .int .i64 S, .int .i64 st, .int .i64 ra, .slice ta tn tc, .string tu], .slice wa wn wc] w fun e w' => e = .returned (.tuple #[.int .i64 0, .int .i64 0, .iface 53 (.int .i64 f)]) ∧ Below w.heap.size w w' := by
  obtain ⟨hR, hB⟩ := row_rule w K B S st ra ta tn tc tu
  have HB := Lib.hid hB
  have HC := Lib.hid (wcheck_any K B S st ra ta tn tc tz tu wa wn wc wz _ (hT.keep hB) hu (hW.keep hB))
  rw [hf, errV_some h0] at HC
  clear hR hB hT hW hf
  unfold rulL at HC
  go_enter Tryd.func13, Tryd.ntmps13
  go_wp2_with fail
  refine HC.out.mono ?_
  rintro e1 w1 ⟨rfl, hb1⟩
  have HB1 := Lib.hid (HB.out.trans (hb1.mono HB.out.size))
  clear hb1
  go_wp2_with fail
  go_ret3
  exact ⟨rfl, HB1.out⟩
set_option maxHeartbeats 8000000 in
set_option maxRecDepth 1000000 in
theorem cycleL_ok (K B S : Int) (st ra : Nat) (ta : Option Addr) (tn tc : Nat) (tz : List Int) (tu : ByteArray) (wa : Option Addr) (wn wc : Nat) (wz : List Int) (w : World) (hT : Ints.Is w ta tn tz) (hu : tu.size ≤ 9223372036854775807) (hW : Ints.Is w wa wn wz) (hf : wfault K B S st ra tz tu wz = 0) :
    Calls Tryd.prog 13 #[.agg #[.int .i64 K, .int .i64 B, .int .i64 S, .int .i64 st, .int .i64 ra, .slice ta tn tc, .string tu], .slice wa wn wc] w fun e w' => (∃ (a p : Nat) (f : Int), e = .returned (.tuple #[.int .i64 a, .int .i64 p, errV f]) ∧ Cy.ByMap (runL (wf tz) st ra wz) 100000 a p f) ∧ Below w.heap.size w w' := by
  obtain ⟨hR, hB⟩ := row_rule w K B S st ra ta tn tc tu
  have HB := Lib.hid hB
  have HR := Lib.hid hR
  have HC := Lib.hid (wcheck_any K B S st ra ta tn tc tz tu wa wn wc wz _ (hT.keep hB) hu (hW.keep hB))
  rw [hf, errV_zero rfl] at HC
  obtain ⟨ho, hwn, hz⟩ := wfault_zero hf
  obtain ⟨s, r, hs, hr', h2, h4, hr5, htn, htl, htz⟩ := ho.nat hT.len
  obtain rfl : st = s := by omega
  obtain rfl : ra = r := by omega
  have hwl := hW.len
  have hwn1 : wn ≤ 1000 := by omega
  have htlt : ∀ k, wf tz k < st := fun k => wf_lt (by omega) htz k
  obtain ⟨x, hx⟩ : ∃ x : Nat → List Int, x = runL (wf tz) st ra wz := ⟨_, rfl⟩
  have HST : Hid (∀ (w2 : World) (h3 : Below w.heap.size w w2) (ao : Option Addr) (co n : Nat) (hI : Ints.Is w2 ao wn (x n)), Calls Tryd.prog 26 #[.agg (rulL K B S st ra ta tn tc tu).toArray, .slice ao wn co] w2 fun e w' => (∃ a2 c2, e = .returned (.slice a2 wn c2) ∧ Ints.Is w' a2 wn (x (n + 1))) ∧ Below w2.heap.size w2 w') := fun w2 h3 ao co n hI => by
    rw [hx] at hI ⊢
    refine (step_any K B S st ra ta tn tc tz tu ao wn co _ w2 (hT.keep h3) h2 h4 hr5 htn htl htz hI (runL_mem htlt hz n) (by omega)).mono ?_
    rintro e w' ⟨⟨v', rfl, hown⟩, hb⟩
    obtain ⟨a2, c2, rfl, hco⟩ := own_slice2 hown
    exact ⟨⟨a2, c2, rfl, (own_is hown ((runL_len (n + 1)).trans hwl) (by unfold maxLen; omega)).1⟩, hb⟩
  have HXL : Hid (∀ n, (x n).length = wn) := fun n => by rw [hx]; exact (runL_len n).trans hwl
  have HXB : Hid (∀ n, ∀ z ∈ x n, 0 ≤ z ∧ z < 256) := fun n z h => by
    rw [hx] at h
    have := runL_mem htlt hz n z h
    omega
  have HX0 : Hid (x 0 = wz) := by rw [hx]; rfl
  have HI := Lib.hid (hW.keep hB)
  rw [← hx]
  clear hR hB hT hW hf ho hz htz htn hs hr' htlt hwl hx
  unfold rulL at HC
  have hmm := @run_makeMap Tryd.prog
  go_enter Tryd.func13, Tryd.ntmps13
  go_wp2_with fail
  refine HC.out.mono ?_
  rintro e1 w1 ⟨rfl, hb1⟩
  have HI := Lib.hid (HI.out.keep hb1)
  have HR := Lib.hid (HR.out.keep hb1 HR.out.lt)
  have HB := Lib.hid (HB.out.trans (hb1.mono HB.out.size))
  clear hb1 HC
  obtain ⟨b1, hb1⟩ : ∃ b1, b1 = w.heap.size := ⟨_, rfl⟩
  rw [← hb1] at HR ⊢
  have HBE := Lib.hid hb1
  clear hb1
  go_upto_region 5 with fail
  clear hmm
  have HM : Hid ((w1.alloc (.map #[] 0)).ownsMap Tryd.prog 9 (plainElem Tryd.prog 3) w1.heap.size 0 (seenD x 0)) := World.ownsMap_made _ _ _ _
  have hb2 : Below w1.heap.size w1 (w1.alloc (.map #[] 0)) := (Below.refl _ _).alloc (Nat.le_refl _) _
  have hM1 : b1 < w1.heap.size := HR.out.lt
  have HI := Lib.hid (HI.out.keep hb2)
  have HR := Lib.hid (HR.out.keep hb2 HR.out.lt)
  have HB := Lib.hid (HB.out.trans (hb2.mono HB.out.size))
  clear hb2
  obtain ⟨M, hM⟩ : ∃ M, M = w1.heap.size := ⟨_, rfl⟩
  rw [← hM] at HM hM1 ⊢
  clear hM
  generalize w1.alloc (.map #[] 0) = w2 at *
  go_wp2_with fail
  go_loopw [1, 10] (fun u v wr => ∃ (n : Nat) (ao : Option Addr) (co : Nat), n ≤ 100001 ∧ v = .int .i64 n ∧ u = .slice ao wn co ∧ Ints.Is wr ao wn (x n) ∧ (∀ i j, i < j → j < n → x i ≠ x j) ∧ wr.ownsMap Tryd.prog 9 (plainElem Tryd.prog 3) M n (seenD x n) ∧ Row wr b1 24 (rulL K B S st ra ta tn tc tu) ∧ Below w.heap.size w wr) (fun _ v _ => 100001 - (intOf v).toNat)
  case atStart => exact ⟨0, wa, wc, Nat.zero_le _, rfl, rfl, by rw [HX0.out]; exact HI.out, fun i j _ hj => absurd hj (Nat.not_lt_zero _), HM.out, HR.out, HB.out⟩
  case round =>
    clear HI HR HB HM
    obtain ⟨n, ao, co, hn, rfl, rfl, hI, hap, hM, hR, hbel⟩ := hrel
    have HI := Lib.hid hI
    have HAP := Lib.hid hap
    have HM := Lib.hid hM
    have HR := Lib.hid hR
    have HB := Lib.hid hbel
    clear hI hap hM hR hbel
    by_cases hlt : n ≤ 100000
    · have HKY := Lib.hid (key_is (x n) (by rw [HXL.out]; omega))
      go_wp2_with fail
      refine (key_any ao wn co (x n) wr HI.out (fun z h => HXB.out n z h) (by omega)).mono ?_
      rintro e2 w3 ⟨rfl, hb3⟩
      have HI := Lib.hid (HI.out.keep hb3)
      have HM := Lib.hid (map_keep HM.out hb3)
      have HR := Lib.hid (HR.out.keep hb3 HR.out.lt)
      have HB := Lib.hid (HB.out.trans (hb3.mono HB.out.size))
      clear hb3
      generalize (⟨(kyB (x n)).toArray⟩ : ByteArray) = ks at *
      by_cases hq : ∃ i, i < n ∧ x i = x n
      · have HH := Lib.hid ((seen_has HXB.out (HXB.out n) n).2 hq)
        obtain ⟨i, hi, hxi⟩ := hq
        have HAT := Lib.hid (seen_at HXB.out (.lit (.int .i64 0)) n HAP.out i hi)
        have HXI := Lib.hid hxi
        clear hxi
        go_wp2_with (at_lookup; refine wpList_lookup_own_ok_int _ rfl _ _ 57 rfl 9 3 .i64 (Maps.string_keyed Tryd.underlying9) Tryd.underlying57 Tryd.underlying3 (zeroInt _) M n (seenD x n) rfl HM.out _ (kyL (x n)) rfl HKY.out ?_; intro c hat hwc; rw [HH.out]; have hci : c = (i : Int) := by { rw [← HXI.out, HAT.out] at hat; simp only [DataW.lit.injEq, Lit.int.injEq] at hat; exact hat.2.symm }; subst hci)
        go_ret3
        refine ⟨⟨i, n - i, 0, ?_, .inl ⟨⟨by omega, by rw [show i + (n - i) = n from by omega]; exact HXI.out, fun a b hab hb => HAP.out a b hab (by omega)⟩, by omega, rfl⟩⟩, HB.out⟩
        rw [show ((n - i : Nat) : Int) = (n : Int) - (i : Int) from by omega]
        rfl
      · have HH : Hid (Maps.has (seenD x n) (kyL (x n)) = false) := by
          show Maps.has (seenD x n) (kyL (x n)) = false
          cases hh : Maps.has (seenD x n) (kyL (x n))
          · rfl
          · exact absurd ((seen_has HXB.out (HXB.out n) n).1 hh) hq
        have HNX : Hid (∀ i j, i < j → j < n + 1 → x i ≠ x j) := fun i j hij hj e => by
          rcases Nat.lt_or_eq_of_le (Nat.le_of_lt_succ hj) with h1 | rfl
          · exact HAP.out i j hij h1 e
          · exact hq ⟨i, hij, e⟩
        have hwf : (Lit.int .i64 (n : Int)).wf = true := WalkArith.wf_i64 (by omega)
        have HWF := Lib.hid hwf
        clear hq hwf
        go_upto_region 14 with (first
          | (at_lookup; refine wpList_lookup_own_ok_int _ rfl _ _ 57 rfl 9 3 .i64 (Maps.string_keyed Tryd.underlying9) Tryd.underlying57 Tryd.underlying3 (zeroInt _) M n (seenD x n) rfl HM.out _ (kyL (x n)) rfl HKY.out ?_; intro c hat hwc; rw [HH.out])
          | (at_mapUpdate; refine wpList_mapUpdate_own _ rfl _ _ _ 57 rfl 9 3 (Maps.string_keyed Tryd.underlying9) Tryd.underlying57 (plainElem Tryd.prog 3) M n (seenD x n) rfl HM.out (by unfold maxLen; omega) _ _ (kyL (x n)) rfl rfl HKY.out (.lit (.int .i64 n)) [] (plainElem_int Tryd.underlying3 HWF.out) ?_; intro w4 hown4 hg4))
        have HI := Lib.hid (is_map HI.out HM.out hg4)
        have HR := Lib.hid (row_map HR.out hg4 (by omega))
        have HB := Lib.hid (HB.out.grown hg4 HB.out.size (fun k hk => by cases hk; have := HBE.out; omega))
        have HM : Hid (w4.ownsMap Tryd.prog 9 (plainElem Tryd.prog 3) M (n + 1) (seenD x (n + 1))) := hown4
        clear hown4 hg4
        have l2 := row_range HR.out
        go_wp2_with (refine wpList_load_mid rfl 24 _ rfl b1 0 rfl _ _ l2 Tryd.underlying24 rfl infoRule ?_)
        clear l2
        refine (HST.out _ HB.out ao co n HI.out).mono ?_
        rintro e5 w5 ⟨⟨a2, c2, rfl, hI⟩, hb5⟩
        have HI := Lib.hid hI
        have HM := Lib.hid (map_keep HM.out hb5)
        have HR := Lib.hid (HR.out.keep hb5 HR.out.lt)
        have HB := Lib.hid (HB.out.trans (hb5.mono HB.out.size))
        clear hI hb5 HAP HH
        go_wp2_with fail
        go_roundw
        case rel => exact ⟨n + 1, a2, c2, by omega, by go_num, rfl, HI.out, HNX.out, HM.out, HR.out, HB.out⟩
        case measure => simp [intOf]; omega
    · have e : n = 100001 := by omega
      subst e
      go_wp2_with fail
      go_ret3
      exact ⟨⟨0, 0, 6, by rw [errV_some (by decide)]; rfl, .inr ⟨fun i j hij hj => HAP.out i j hij (by omega), rfl, rfl, rfl⟩⟩, HB.out⟩
end Ln
end Go.Proofs.YtgefikkklbjcbaaDoor
