/- WALK: line.apply, ring, step. -/
import Derived.Test.YtahhhbdnhimbfaaDoorLnCc
import Derived.Maps.AppendAt
import Derived.BigRegion
import Derived.Deep.RegionWith
namespace Go.Proofs.YtahhhbdnhimbfaaDoor
set_option linter.unusedSimpArgs false
set_option linter.unusedVariables false
open Go.RowKit
namespace Ln
open Tld Mem

theorem infoIntN : (Tryd.prog.info? 3).map (fun i => (i.zero, i.size, i.bytes)) = some (some (.int .i64 0), 1, 8) := by kernel_rfl
theorem own_nil (w : World) (B : Nat) : w.ownsRow B 3 1 (.slice none 0 0) 0 [] := ⟨rfl, .inl ⟨rfl, rfl⟩⟩
theorem own_low {w : World} {B : Nat} {e : TypeId} {v : Value} {n : Nat} {xs : List Value} (h : w.ownsRow B e 1 v n xs) : ∀ k, v.ownBlock = some k → B ≤ k := fun k hk => (h.lt k hk).1
theorem own_is {w : World} {B : Nat} {a : Option Addr} {n c : Nat} {zs : List Int} (h : w.ownsRow B 3 1 (.slice a n c) n (zs.map (Value.int .i64))) (hz : zs.length = n) (hn : n ≤ maxLen) : Ints.Is w a n zs ∧ (a = none → n = 0) := by
  rcases h.2 with ⟨hv, h0⟩ | ⟨g, cap, cur, hv, hB, hg, hnc, hcm, hcs, ht⟩
  · cases hv
    exact ⟨⟨hz, fun i hi => absurd hi (Nat.not_lt_zero _), Nat.zero_le _⟩, fun _ => rfl⟩
  · cases hv
    refine ⟨⟨hz, fun i hi => ⟨g, 0, rfl, (Array.getElem?_eq_some_iff.1 hg).1, ?_⟩, hn⟩, fun h => by cases h⟩
    have h1 : w.cell? ⟨g, 0 + i, none⟩ = cur[i]? := by simp [World.cell?, hg]
    rw [h1]
    have h3 : (cur.toList.take (n * 1))[i]? = (zs.map (Value.int .i64))[i]? := by rw [ht]
    rw [List.getElem?_take_of_lt (by omega), Array.getElem?_toList] at h3
    rw [h3, List.getElem?_map, List.getElem?_eq_getElem (by omega)]
    simp [List.getD_eq_getElem?_getD, List.getElem?_eq_getElem (show i < zs.length by omega)]
theorem own_slice {w : World} {B n : Nat} {v : Value} {zs : List Value} (h : w.ownsRow B 3 1 v n zs) : ∃ a c, v = .slice a n c := by
  rcases h.2 with ⟨rfl, h0⟩ | ⟨g, cap, cur, rfl, _⟩
  · exact ⟨none, 0, by rw [h0]⟩
  · exact ⟨_, _, rfl⟩
theorem row_rule (w : World) (K B S st ra : Int) (ta : Option Addr) (tn tc : Nat) (tu : ByteArray) : Row (w.alloc (.cells #[.int .i64 K, .int .i64 B, .int .i64 S, .int .i64 st, .int .i64 ra, .slice ta tn tc, .string tu] 24)) w.heap.size 24 (rulL K B S st ra ta tn tc tu) ∧ Below w.heap.size w (w.alloc (.cells #[.int .i64 K, .int .i64 B, .int .i64 S, .int .i64 st, .int .i64 ra, .slice ta tn tc, .string tu] 24)) :=
  ⟨row_alloc w _ _, (Below.refl _ _).alloc (Nat.le_refl _) _⟩
theorem map_snoc (zs : List Int) (z : Int) : (zs ++ [z]).map (Value.int .i64) = zs.map (Value.int .i64) ++ [.int .i64 z] := by rw [List.map_append]; rfl

set_option maxHeartbeats 8000000 in
set_option maxRecDepth 1000000 in
theorem apply_any (K B S : Int) (st ra : Nat) (ta : Option Addr) (tn tc : Nat) (tz : List Int) (tu : ByteArray) (wa : Option Addr) (wn wc : Nat) (wz : List Int) (w : World) (hT : Ints.Is w ta tn tz) (h2 : 2 ≤ st) (h4 : st ≤ 4) (hr : ra ≤ 5) (htn : tn = st ^ (2 * ra + 1)) (ht : tn ≤ 4096)
    (htz : ∀ z ∈ tz, 0 ≤ z ∧ z < (st : Int)) (hW : Ints.Is w wa wn wz) (hwc : wn ≤ wc) (hwz : ∀ z ∈ wz, 0 ≤ z ∧ z < (st : Int)) (hwn : wn ≤ 10000) :
    Calls Tryd.prog 31 #[.agg (rulL K B S st ra ta tn tc tu).toArray, .slice wa wn wc] w fun e w' => (∃ v', e = .returned v' ∧ w'.ownsRow w.heap.size 3 1 v' (wn - 2 * ra) ((applyL (wf tz) st ra wz).map (Value.int .i64))) ∧ Below w.heap.size w w' := by
  obtain ⟨i0, hI0, hz0, hz1, hz2⟩ := info_parts infoIntN
  have HI0 := Lib.hid hI0
  have HZ0 := Lib.hid hz0
  have HZ1 := Lib.hid hz1
  have HZ2 := Lib.hid hz2
  have HT := Lib.hid hT
  have HW := Lib.hid hW
  have HTN := Lib.hid htn
  have HTV := Lib.hid (wf_at (zs := tz) fun z hz => (htz z hz).1)
  have HWV := Lib.hid (wf_at (zs := wz) fun z hz => (hwz z hz).1)
  have HTL := Lib.hid (wf_lt (st := st) (by omega) htz)
  have HWL := Lib.hid (wf_lt (st := st) (by omega) hwz)
  have HAP : Hid ((applyL (wf tz) st ra wz) = lst (wn - 2 * ra) (app (wf tz) st ra (wf wz))) := by
    show applyL (wf tz) st ra wz = _
    unfold applyL
    rw [hW.len]
  obtain ⟨ww, hww⟩ : ∃ ww, ww = 2 * ra + 1 := ⟨_, rfl⟩
  have hwi : 2 * (ra : Int) + 1 = (ww : Int) := by omega
  have hw11 : ww ≤ 11 := by omega
  obtain ⟨m, hm⟩ : ∃ m, m = wn - 2 * ra := ⟨_, rfl⟩
  have HM : Hid (∀ i : Nat, i < m ↔ i + ww ≤ wn) := fun i => by omega
  rw [← hww] at HTN
  rw [← hm] at HAP ⊢
  have HWW := Lib.hid hww
  have hm1 : m ≤ wn := by omega
  clear hI0 hz0 hz1 hz2 hT hW htn htz hwz hww hm
  unfold rulL
  go_enter Tryd.func31, Tryd.ntmps31
  go_wp2_with fail
  obtain ⟨hR, hB⟩ := row_rule w K B S st ra ta tn tc tu
  have HR := Lib.hid hR
  have HB := Lib.hid hB
  clear hR hB
  generalize w.alloc (.cells #[.int .i64 K, .int .i64 B, .int .i64 S, .int .i64 st, .int .i64 ra, .slice ta tn tc, .string tu] 24) = w1 at *
  go_loopw [5, 7] (fun u v wr => ∃ i : Nat, i ≤ m ∧ v = .int .i64 i ∧ wr.ownsRow w.heap.size 3 1 u i ((lst i (app (wf tz) st ra (wf wz))).map (Value.int .i64)) ∧ Row wr w.heap.size 24 (rulL K B S st ra ta tn tc tu) ∧ Below w.heap.size w wr) (fun _ v _ => m - (intOf v).toNat)
  case atStart => exact ⟨0, Nat.zero_le _, rfl, own_nil _ _, HR.out, HB.out⟩
  case round =>
    clear HR HB
    obtain ⟨i, hi, rfl, hown, hR, hbel⟩ := hrel
    obtain ⟨ao, co, rfl⟩ := own_slice hown
    have HO := Lib.hid hown
    have HR := Lib.hid hR
    have HB := Lib.hid hbel
    clear hown hR hbel
    by_cases hlt : i < m
    · have hwl := (HM.out i).1 hlt
      obtain ⟨bw, off, rfl, hbw, _⟩ := (HW.out.keep HB.out).cells i (by omega)
      have f3 := HR.out.cell 3
      have f5 := HR.out.cell 5
      unfold rulL at f3 f5
      dsimp only [List.getElem?_cons_succ, List.getElem?_cons_zero] at f3 f5
      go_wp2_with fail
      go_loop [8, 30] (fun u v => ∃ k : Nat, k ≤ ww ∧ v = .int .i64 k ∧ u = .int .i64 (win st k (fun k => wf wz (i + k)) : Nat)) (fun _ v => ww - (intOf v).toNat)
      case atStart => exact ⟨0, Nat.zero_le _, rfl, rfl⟩
      case round =>
        obtain ⟨k, hk, rfl, rfl⟩ := hrel
        have hwlt : win st k (fun k => wf wz (i + k)) < st ^ k := win_lt fun k _ => HWL.out _
        by_cases hkl : k < ww
        · obtain ⟨bw', off', e', _, hc⟩ := (HW.out.keep HB.out).cells (i + k) (by omega)
          cases e'
          dsimp only at hc
          rw [HWV.out] at hc
          have hcl := HWL.out (i + k)
          have hpk : st ^ k * st ≤ tn := by
            rw [HTN.out, ← Nat.pow_succ]
            exact Nat.pow_le_pow_right (by omega) (by omega)
          have hmul : (win st k (fun k => wf wz (i + k)) + 1) * st ≤ st ^ k * st := Nat.mul_le_mul_right st hwlt
          rw [Nat.succ_mul] at hmul
          have HN : Hid (win st (k + 1) (fun k => wf wz (i + k)) = win st k (fun k => wf wz (i + k)) * st + wf wz (i + k)) := rfl
          generalize hnn : win st (k + 1) (fun k => wf wz (i + k)) = nn at *
          have HNN := Lib.hid hnn
          clear hnn
          generalize win st k (fun k => wf wz (i + k)) = n at *
          generalize wf wz (i + k) = cv at *
          obtain ⟨pr, hpr⟩ : ∃ pr, pr = n * st := ⟨_, rfl⟩
          have hwp : IntKind.i64.wrap ((n : Int) * (st : Int)) = (pr : Int) := by
            rw [show ((n : Int) * (st : Int)) = ((n * st : Nat) : Int) from by push_cast; rfl, ← hpr, IntKind.wrap_i64]; omega
          have hpr1 : pr ≤ 4096 := by omega
          rw [← hpr] at HN
          have hoff : off + i + k = off + (i + k) := by omega
          clear hmul hpr hwlt hpk
          go_wp2_with fail
          exact ⟨⟨k + 1, by omega, by go_num, by rw [HNN.out, HN.out]; push_cast; rfl⟩, by simp [intOf]; omega⟩
        · have ek : k = ww := by omega
          subst ek
          have hnt : win st k (fun k => wf wz (i + k)) < tn := by rw [HTN.out]; exact hwlt
          have HV : Hid (app (wf tz) st ra (wf wz) i = wf tz (win st k (fun k => wf wz (i + k)))) := by
            show app (wf tz) st ra (wf wz) i = _
            unfold app
            rw [← HWW.out]
          obtain ⟨bt, ot, rfl, _, hct⟩ := (HT.out.keep HB.out).cells _ hnt
          have HTK := Lib.hid (HT.out.keep HB.out)
          dsimp only at hct
          rw [HTV.out] at hct
          have htv := HTL.out (win st k (fun k => wf wz (i + k)))
          have HSN : Hid ((lst (i + 1) (app (wf tz) st ra (wf wz))).map (Value.int .i64) = (lst i (app (wf tz) st ra (wf wz))).map (Value.int .i64) ++ [.int .i64 ((wf tz (win st k (fun k => wf wz (i + k))) : Nat) : Int)]) := by
            show (lst (i + 1) (app (wf tz) st ra (wf wz))).map (Value.int .i64) = _
            rw [lst_succ, map_snoc, HV.out]
          clear HV hwlt hkl hk
          generalize wf tz (win st k (fun k => wf wz (i + k))) = tv at *
          generalize win st k (fun k => wf wz (i + k)) = nn at *
          have hnew := row_alloc wr 3 [.int .i64 (tv : Int)]
          have hbn : Below wr.heap.size wr (wr.alloc (.cells [.int .i64 (tv : Int)].toArray 3)) := (Below.refl _ _).alloc (Nat.le_refl _) _
          have HRa := Lib.hid (HR.out.keep hbn HR.out.lt)
          have HOa := Lib.hid (own_keep HO.out hbn)
          have HBa := Lib.hid (HB.out.trans (hbn.mono HB.out.size))
          have HCEL := Lib.hid (hnew.cell 0)
          have HSZ : Hid (w.heap.size ≤ (wr.alloc (.cells [.int .i64 (tv : Int)].toArray 3)).heap.size) := HBa.out.size
          clear HR HO HB hnew hbn f3 HTK
          go_wp2_with (at_builtin; refine Ops.wpList_append1 rfl _ _ 22 rfl w.heap.size 3 i0 (.int .i64 0) 8 Tryd.underlying22 HI0.out HZ0.out rfl HZ1.out HZ2.out _ i _ rfl HOa.out ⟨wr.heap.size, 0, none⟩ 1 (.int .i64 tv) rfl HCEL.out rfl ?c1 ?c2 HSZ.out ?_)
          case c1 => unfold maxLen; omega
          case c2 => omega
          intro ao' co' w3 hO3 hg3
          have HR3 := Lib.hid (row_grown HOa.out hg3 HRa.out (by decide))
          have HB3 := Lib.hid (HBa.out.grown hg3 HSZ.out (own_low HOa.out))
          rw [← HSN.out] at hO3
          have HO3 := Lib.hid hO3
          clear hO3 hg3 HRa HOa HBa HCEL HSZ HSN f5 hct
          go_wp2_with fail
          go_roundw
          case rel => exact ⟨i + 1, by omega, by go_num, HO3.out, HR3.out, HB3.out⟩
          case measure => simp [intOf]; omega
    · have em : i = m := by omega
      subst em
      have hno : ¬ (i + ww ≤ wn) := fun h => hlt ((HM.out i).2 h)
      go_wp2_with fail
      go_ret
      refine ⟨⟨_, rfl, ?_⟩, HB.out⟩
      rw [HAP.out]
      exact HO.out
theorem ix_tmod {n R j : Nat} (h : 0 < n) : ∃ q : Int, ((j : Int) - (R : Int)).tmod (n : Int) = q ∧ -(n : Int) ≤ q ∧ q < n ∧ (q + (n : Int)).tmod (n : Int) = ((ix n R j : Nat) : Int) := by
  show ∃ q : Int, ((j : Int) - (R : Int)).tmod (n : Int) = q ∧ -(n : Int) ≤ q ∧ q < n ∧ (q + (n : Int)).tmod (n : Int) = (((j + R * n - R) % n : Nat) : Int)
  have hn : (0 : Int) < n := by omega
  have hr0 := Int.emod_nonneg ((j : Int) - R) (show (n : Int) ≠ 0 by omega)
  have hr1 := Int.emod_lt_of_pos ((j : Int) - R) hn
  have hR : R ≤ R * n := Nat.le_mul_of_pos_right R h
  have hc : (((j + R * n - R) % n : Nat) : Int) = ((j : Int) - R) % n := by
    rw [Int.natCast_emod, show ((j + R * n - R : Nat) : Int) = ((j : Int) - R) + (R : Int) * (n : Int) from by rw [Int.natCast_sub (by omega)]; push_cast; omega, Int.add_mul_emod_self_right]
  refine ⟨_, rfl, ?_⟩
  rw [hc, Int.tmod_eq_emod]
  generalize ((j : Int) - R) % n = r at *
  split
  · refine ⟨by omega, by omega, ?_⟩
    rw [show r - ((0 : Nat) : Int) + n = r + n from by omega, Int.tmod_eq_emod_of_nonneg (by omega), Int.add_emod_right, Int.emod_eq_of_lt hr0 hr1]
  · simp only [Int.toNat_natCast, Int.natAbs_natCast]
    refine ⟨by omega, by omega, ?_⟩
    rw [show r - (n : Int) + n = r from by omega, Int.tmod_eq_emod_of_nonneg hr0, Int.emod_eq_of_lt hr0 hr1]
/-- A word with what stands around it on a ring. -/
def ringL (ra : Nat) (wz : List Int) : List Int := if wz.length = 0 then [] else lst (wz.length + 2 * ra) (fun j => wf wz (ix wz.length ra j))
theorem ringL_len {ra : Nat} {wz : List Int} : (ringL ra wz).length = if wz.length = 0 then 0 else wz.length + 2 * ra := by
  unfold ringL
  split
  · rfl
  · rw [lst_len]
theorem ringL_mem {ra st : Nat} {wz : List Int} (hs : 0 < st) (h : ∀ z ∈ wz, 0 ≤ z ∧ z < (st : Int)) : ∀ z ∈ ringL ra wz, 0 ≤ z ∧ z < (st : Int) := by
  unfold ringL
  split
  · intro z hz; cases hz
  · exact lst_mem fun k => wf_lt hs h _
/-- A step on a ring is what becomes of it with what stands around it. -/
theorem ring_step {t : Nat → Nat} {st ra : Nat} {wz : List Int} : applyL t st ra (ringL ra wz) = stepL t st ra wz := by
  by_cases h0 : wz.length = 0
  · unfold applyL stepL ringL
    rw [if_pos h0, h0]
    simp [lst]
  · have hl : (ringL ra wz).length - 2 * ra = wz.length := by rw [ringL_len, if_neg h0]; omega
    unfold applyL stepL
    rw [hl]
    refine lst_congr fun k hk => ?_
    unfold app stp
    congr 1
    refine win_congr fun m hm => ?_
    unfold ringL
    rw [if_neg h0, wf_lst (by omega)]
theorem wpList_make0 {P : Program} {ops : Array Oper} {rest : List Oper} {o : Oper} {a : Act} {w : World} {Q : Exit → Act → World → Prop} (hgd : o.guard = none) (t : TypeId) (x y : Operand) (ho : o.op = .makeSlice t x y)
    (e : TypeId) (i : TypeInfo) (z : Value) (ht : P.underlying t = some (.slice e)) (hi : P.info? e = some i) (hz : i.zero = some z) (hs : i.size = 1) (hby : i.bytes ≤ 16)
    (n : Nat) (hx : a.eval x = .int .i64 0) (hy : a.eval y = .int .i64 n) (hn : n ≤ 10000000000)
    (hK : ∀ g w1, w1.ownsRow w.heap.size e 1 (.slice (some ⟨g, 0, none⟩) 0 n) 0 [] → Below w.heap.size w w1 → wpList P ops Q rest (a.put o.dst (.slice (some ⟨g, 0, none⟩) 0 n)) w1) :
    wpList P ops Q (o :: rest) a w := by
  have hb : i.bytes * n ≤ 281474976710656 := by
    have h1 : i.bytes * n ≤ 16 * 10000000000 := Nat.mul_le_mul hby hn
    omega
  obtain ⟨w', hr, hown, hg⟩ := run_make_own (P := P) (w := w) w.heap.size t e i z 1 ht hi hz hs .i64 .i64 n hb (by unfold maxLen; omega) (Nat.le_refl _)
  refine wpList_plain hgd fun K' hK' => ?_
  unfold Oper.wp
  simp only [execOp, ho, hx, hy]
  simp [hr, Result.andThen]
  exact hK' _ _ (hK _ _ hown ((Below.refl _ _).grown hg (Nat.le_refl _) (fun k hk => by cases hk)))
set_option maxHeartbeats 8000000 in
set_option maxRecDepth 1000000 in
theorem ring_any (wa : Option Addr) (wn wc : Nat) (wz : List Int) (ra : Nat) (w : World) (hW : Ints.Is w wa wn wz) (hwz : ∀ z ∈ wz, 0 ≤ z) (hwn : wn ≤ 5000) (hr : ra ≤ 100) :
    Calls Tryd.prog 32 #[.slice wa wn wc, .int .i64 ra] w fun e w' => (∃ v', e = .returned v' ∧ w'.ownsRow w.heap.size 3 1 v' (ringL ra wz).length ((ringL ra wz).map (Value.int .i64))) ∧ Below w.heap.size w w' := by
  obtain ⟨i0, hI0, hz0, hz1, hz2⟩ := info_parts infoIntN
  have HI0 := Lib.hid hI0
  have HZ0 := Lib.hid hz0
  have HZ1 := Lib.hid hz1
  have HZ2 := Lib.hid hz2
  have HW := Lib.hid hW
  have HWV := Lib.hid (wf_at (zs := wz) fun z hz => hwz z hz)
  have hl := hW.len
  by_cases h0 : wn = 0
  · have HR : Hid (ringL ra wz = []) := by
      show ringL ra wz = []
      unfold ringL; rw [if_pos (by omega)]
    rw [HR.out]
    subst h0
    clear hI0 hz0 hz1 hz2 hW hwz hl
    go_enter Tryd.func32, Tryd.ntmps32
    go_wp2_with fail
    go_ret
    exact ⟨⟨_, rfl, own_nil _ _⟩, Below.refl _ _⟩
  · have HR : Hid (ringL ra wz = lst (wn + 2 * ra) (fun j => wf wz (ix wn ra j))) := by
      show ringL ra wz = _
      unfold ringL; rw [if_neg (by omega), hl]
    have HRL : Hid ((ringL ra wz).length = wn + 2 * ra) := by
      show (ringL ra wz).length = _
      rw [ringL_len, if_neg (by omega), hl]
    rw [HRL.out]
    have hn0 : 0 < wn := by omega
    have hb0 : ((wn : Int) == 0) = false := by rw [beq_eq_false_iff_ne]; omega
    obtain ⟨N, hN⟩ : ∃ N, N = wn + 2 * ra := ⟨_, rfl⟩
    have hNI : (wn : Int) + 2 * (ra : Int) = (N : Int) := by omega
    rw [← hN] at HR HRL ⊢
    have HNN : Hid (∀ j : Nat, j < N ↔ (j : Int) - (ra : Int) < (wn : Int) + (ra : Int)) := fun j => by omega
    have hN1 : N ≤ 6000 := by omega
    clear hI0 hz0 hz1 hz2 hW hwz hl hN
    go_enter Tryd.func32, Tryd.ntmps32
    go_wp2_with (refine wpList_make0 rfl 22 _ _ rfl 3 i0 (.int .i64 0) Tryd.underlying22 HI0.out HZ0.out HZ1.out (by rw [HZ2.out]; decide) N rfl rfl (by omega) ?_; intro g w1 hown hb1)
    have HO := Lib.hid hown
    have HB := Lib.hid hb1
    clear hown hb1
    go_loopw [5, 6] (fun u v wr => ∃ j : Nat, j ≤ N ∧ v = .int .i64 ((j : Int) - (ra : Int)) ∧ wr.ownsRow w.heap.size 3 1 u j ((lst j (fun j => wf wz (ix wn ra j))).map (Value.int .i64)) ∧ Below w.heap.size w wr) (fun _ v _ => N + ra - (intOf v + ra).toNat)
    case atStart => exact ⟨0, Nat.zero_le _, by simp, HO.out, HB.out⟩
    case round =>
      clear HO HB
      obtain ⟨j, hj, rfl, hown, hbel⟩ := hrel
      obtain ⟨ao, co, rfl⟩ := own_slice hown
      have HO := Lib.hid hown
      have HB := Lib.hid hbel
      clear hown hbel
      by_cases hlt : j < N
      · have hcond := (HNN.out j).1 hlt
        obtain ⟨q, hq1, hq2, hq3, hq4⟩ := ix_tmod (n := wn) (R := ra) (j := j) hn0
        have hx := ix_lt (n := wn) (R := ra) (j := j) hn0
        obtain ⟨bw, off, rfl, hbw, hc⟩ := (HW.out.keep HB.out).cells (ix wn ra j) hx
        dsimp only at hc
        rw [HWV.out] at hc
        have HSN : Hid ((lst (j + 1) (fun j => wf wz (ix wn ra j))).map (Value.int .i64) = (lst j (fun j => wf wz (ix wn ra j))).map (Value.int .i64) ++ [.int .i64 ((wf wz (ix wn ra j) : Nat) : Int)]) := by
          show (lst (j + 1) _).map (Value.int .i64) = _
          rw [lst_succ, map_snoc]
        generalize wf wz (ix wn ra j) = cv at *
        generalize ix wn ra j = x at *
        have hnew := row_alloc wr 3 [.int .i64 (cv : Int)]
        have hbn : Below wr.heap.size wr (wr.alloc (.cells [.int .i64 (cv : Int)].toArray 3)) := (Below.refl _ _).alloc (Nat.le_refl _) _
        have HOa := Lib.hid (own_keep HO.out hbn)
        have HBa := Lib.hid (HB.out.trans (hbn.mono HB.out.size))
        have HCEL := Lib.hid (hnew.cell 0)
        have HSZ : Hid (w.heap.size ≤ (wr.alloc (.cells [.int .i64 (cv : Int)].toArray 3)).heap.size) := HBa.out.size
        clear HO HB hnew hbn
        go_wp2_with (at_builtin; refine Ops.wpList_append1 rfl _ _ 22 rfl w.heap.size 3 i0 (.int .i64 0) 8 Tryd.underlying22 HI0.out HZ0.out rfl HZ1.out HZ2.out _ j _ rfl HOa.out ⟨wr.heap.size, 0, none⟩ 1 (.int .i64 cv) rfl HCEL.out rfl ?c1 ?c2 HSZ.out ?_)
        case c1 => unfold maxLen; omega
        case c2 => omega
        intro ao' co' w3 hO3 hg3
        have HB3 := Lib.hid (HBa.out.grown hg3 HSZ.out (own_low HOa.out))
        rw [← HSN.out] at hO3
        have HO3 := Lib.hid hO3
        clear hO3 hg3 HOa HBa HCEL HSZ HSN hc
        go_wp2_with fail
        exact ⟨⟨j + 1, by omega, by rw [show ((j + 1 : Nat) : Int) - (ra : Int) = (j : Int) - (ra : Int) + 1 from by omega], HO3.out, HB3.out⟩, by simp [intOf]; omega⟩
      · have em : j = N := by omega
        subst em
        have hcond : ¬ ((j : Int) - (ra : Int) < (wn : Int) + (ra : Int)) := fun h => hlt ((HNN.out j).2 h)
        go_wp2_with fail
        go_ret
        refine ⟨⟨_, rfl, ?_⟩, HB.out⟩
        rw [HR.out]
        exact HO.out
end Ln
end Go.Proofs.YtahhhbdnhimbfaaDoor
