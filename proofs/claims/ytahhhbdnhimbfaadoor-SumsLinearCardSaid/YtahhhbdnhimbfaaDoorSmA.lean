/- WALK: edenref2.Linear. -/
import Derived.Test.YtahhhbdnhimbfaaDoorSmU
import Derived.Test.YtahhhbdnhimbfaaDoorSmWn
namespace Go.Proofs.YtahhhbdnhimbfaaDoor
set_option linter.unusedSimpArgs false
set_option linter.unusedVariables false
open Go.RowKit
namespace Ln
open Tld Mem Sm

def unitF (i k : Nat) : Nat := if k = i then 1 else 0
theorem win_unit_lo {st i : Nat} : ∀ n, n ≤ i → win st n (unitF i) = 0
  | 0, _ => rfl
  | n + 1, h => by
    show win st n (unitF i) * st + unitF i n = 0
    rw [win_unit_lo n (by omega)]
    unfold unitF
    rw [if_neg (by omega)]; simp
theorem win_unit {st i : Nat} : ∀ n, i < n → win st n (unitF i) = st ^ (n - 1 - i)
  | 0, h => absurd h (Nat.not_lt_zero _)
  | n + 1, h => by
    show win st n (unitF i) * st + unitF i n = _
    rcases Nat.lt_or_ge i n with h1 | h1
    · rw [win_unit n h1]
      unfold unitF
      rw [if_neg (by omega), Nat.add_zero, ← Nat.pow_succ]
      congr 1; omega
    · obtain rfl : i = n := by omega
      rw [win_unit_lo i (Nat.le_refl _)]
      unfold unitF
      rw [if_pos rfl]
      simp
theorem sumN_le {F : Nat → Nat} : ∀ k, (∀ j, j < k → F j ≤ 16) → sumN F k ≤ 16 * k
  | 0, _ => by simp [sumN]
  | k + 1, h => by
    have h1 := sumN_le k fun j hj => h j (by omega)
    have h2 := h k (by omega)
    show sumN F k + F k ≤ _
    omega
theorem unit_row {n i : Nat} (h : i < n) : (List.replicate n (Value.int .i64 0)).set i (.int .i64 1) = (lst n (unitF i)).map (Value.int .i64) := by
  apply List.ext_getElem (by simp [lst])
  intro k h1 h2
  simp [lst, unitF, List.getElem_set]
  by_cases e : k = i
  · subst e; simp
  · rw [if_neg e, if_neg (fun h => e h.symm)]; simp

set_option maxHeartbeats 8000000 in
set_option maxRecDepth 1000000 in
theorem linear2_any (K B S : Int) (st ra : Nat) (ta : Option Addr) (tn tc : Nat) (tz : List Int) (tu : ByteArray) (w : World) (hT : Ints.Is w ta tn tz) (ha : lfault K B S st ra tz tu = 0) :
    Calls Tryd.prog 14 #[.agg #[.int .i64 K, .int .i64 B, .int .i64 S, .int .i64 st, .int .i64 ra, .slice ta tn tc, .string tu]] w fun e w' => ((∃ a c, e = .returned (.tuple #[.slice a (2 * ra + 1) c, .bool true]) ∧ Ints.Is w' a (2 * ra + 1) (lst (2 * ra + 1) (cof (wf tz) st (2 * ra + 1))) ∧ SumT (wf tz) st (2 * ra + 1)) ∨ (e = .returned (.tuple #[.slice none 0 0, .bool false]) ∧ ¬ SumT (wf tz) st (2 * ra + 1))) ∧ Below w.heap.size w w' := by
  obtain ⟨s', r', es, er, h2, h4, hr5, htn, htl, htz⟩ := (lfault_01 ha).nat hT.len
  obtain rfl : st = s' := by omega
  obtain rfl : ra = r' := by omega
  clear es er
  obtain ⟨i0, hI0, hz0, hz1, hz2⟩ := info_parts infoIntN
  have HI0 := Lib.hid hI0
  have HZ0 := Lib.hid hz0
  have HZ1 := Lib.hid hz1
  have HZ2 := Lib.hid hz2
  have HT := Lib.hid hT
  have HTV := Lib.hid (wf_at (zs := tz) fun z hz => (htz z hz).1)
  have HTL := Lib.hid (wf_lt (st := st) (by omega) htz)
  obtain ⟨ww, hww⟩ : ∃ ww, ww = 2 * ra + 1 := ⟨_, rfl⟩
  rw [← hww] at htn ⊢
  have hwi : 2 * (ra : Int) + 1 = (ww : Int) := by omega
  have hw11 : ww ≤ 11 := by omega
  have hw1 : 1 ≤ ww := by omega
  have HTN := Lib.hid htn
  obtain ⟨t, ht⟩ : ∃ t, t = wf tz := ⟨_, rfl⟩
  rw [← ht] at HTV HTL ⊢
  clear hI0 hz0 hz1 hz2 hT ha htn htz hww ht
  have hst0 : ((st : Int) == 0) = false := by rw [beq_eq_false_iff_ne]; omega
  have hst1 : ¬ st = 0 := by omega
  go_enter Tryd.func14, Tryd.ntmps14
  go_upto_region 1 with fail
  obtain ⟨hR, hB⟩ := row_rule w K B S st ra ta tn tc tu
  have HR : Hid (Row (w.alloc (.cells #[.int .i64 K, .int .i64 B, .int .i64 S, .int .i64 (st : Nat), .int .i64 (ra : Nat), .slice ta tn tc, .string tu] 24)) w.heap.size 24 (rulL K B S st ra ta tn tc tu)) := hR
  have HB : Hid (Below w.heap.size w (w.alloc (.cells #[.int .i64 K, .int .i64 B, .int .i64 S, .int .i64 (st : Nat), .int .i64 (ra : Nat), .slice ta tn tc, .string tu] 24))) := hB
  clear hR hB
  generalize w.alloc (.cells #[.int .i64 K, .int .i64 B, .int .i64 S, .int .i64 (st : Nat), .int .i64 (ra : Nat), .slice ta tn tc, .string tu] 24) = w1 at *
  obtain ⟨b1, hb1⟩ : ∃ b1, b1 = w.heap.size := ⟨_, rfl⟩
  rw [← hb1] at HR ⊢
  have hle1 : w.heap.size ≤ b1 := by omega
  clear hb1
  have f4 := HR.out.cell 4
  unfold rulL at f4
  dsimp only [List.getElem?_cons_succ, List.getElem?_cons_zero] at f4
  go_wp2_with fail
  clear f4
  go_loopw [5, 6] (fun u v wr => ∃ i : Nat, i ≤ ww ∧ v = .int .i64 i ∧ wr.ownsRow w.heap.size 3 1 u i ((lst i (cof t st ww)).map (Value.int .i64)) ∧ Row wr b1 24 (rulL K B S st ra ta tn tc tu) ∧ Below w.heap.size w wr) (fun _ v _ => ww - (intOf v).toNat)
  case atStart => exact ⟨0, Nat.zero_le _, rfl, own_nil _ _, HR.out, HB.out⟩
  case round =>
    clear HR HB
    obtain ⟨i, hi, rfl, hown, hR, hbel⟩ := hrel
    obtain ⟨ao, co, rfl, hcap⟩ := own_slice2 hown
    have HO := Lib.hid hown
    have HR := Lib.hid hR
    have HB := Lib.hid hbel
    clear hown hR hbel
    by_cases hlt : i < ww
    · go_upto_region 7 with (refine Ops.wpList_make rfl 22 _ _ rfl 3 i0 (.int .i64 0) Tryd.underlying22 HI0.out HZ0.out rfl HZ1.out (by rw [HZ2.out]; decide) ww rfl rfl (by omega) ?_; intro g w2 hg hb2 hRg)
      have hgb : b1 < g := Nat.lt_of_lt_of_le HR.out.lt hg
      have hgw : w.heap.size ≤ g := Nat.le_trans HB.out.size hg
      have hne : Value.ownBlock (.slice ao i co) ≠ some g := fun h => absurd (HO.out.lt g h).2 (by omega)
      have HO := Lib.hid (own_keep HO.out hb2)
      have HR := Lib.hid (HR.out.keep hb2 HR.out.lt)
      have HB := Lib.hid (HB.out.trans (hb2.mono HB.out.size))
      clear hb2 hg
      have hcell := (hRg.cell i).trans (show (List.replicate ww (Value.int .i64 0))[i]? = some (.int .i64 0) by rw [List.getElem?_replicate, if_pos hlt])
      have hfrz := hRg.frozen i
      have hset := hRg.set i (.int .i64 1)
      rw [unit_row hlt] at hset
      have ho := only_setCell w2 g i (.int .i64 1)
      have HU := Lib.hid hset
      have HO2 := Lib.hid (own_only HO.out ho hne)
      have HR2 := Lib.hid (HR.out.other ho (by omega))
      have HB2 := Lib.hid (HB.out.trans (ho.below hgw))
      clear hset ho HO HR HB hRg hne
      go_upto_region 9 with fail
      clear hcell hfrz
      generalize w2.setCell ⟨g, i, none⟩ (.int .i64 1) = w3 at *
      obtain ⟨wo, rfl⟩ : ∃ wo : World, wo = w3 := ⟨_, rfl⟩
      have HUB : Hid (∀ k, unitF i k ≤ 1) := fun k => by unfold unitF; split <;> omega
      have HUL : Hid (∀ k, win st k (unitF i) < st ^ k) := fun k => win_lt fun j _ => by have := HUB.out j; omega
      have HUP : Hid (∀ k, k ≤ ww → st ^ k ≤ tn) := fun k hk => by rw [HTN.out]; exact Nat.pow_le_pow_right (by omega) hk
      go_wp2_with fail
      go_loopw [8, 9] (fun u v wr => ∃ k : Nat, k ≤ ww ∧ v = .int .i64 k ∧ u = .int .i64 ((win st k (unitF i) : Nat) : Int) ∧ Below wo.heap.size wo wr) (fun _ v _ => ww - (intOf v).toNat)
      case atStart => exact ⟨0, Nat.zero_le _, rfl, rfl, Below.refl _ _⟩
      case round =>
        obtain ⟨k, hk, rfl, rfl, hbel⟩ := hrel
        have HBW := Lib.hid hbel
        clear hbel
        have f3 := (HR2.out.keep HBW.out HR2.out.lt).cell 3
        have f5 := (HR2.out.keep HBW.out HR2.out.lt).cell 5
        unfold rulL at f3 f5
        dsimp only [List.getElem?_cons_succ, List.getElem?_cons_zero] at f3 f5
        by_cases hkl : k < ww
        · have hcell := ((HU.out.keep HBW.out HU.out.lt).cell k).trans (lst_getI hkl)
          have hub := HUB.out k
          have hul := HUL.out k
          have hup := HUP.out k hk
          have HNX : Hid (win st (k + 1) (unitF i) = win st k (unitF i) * st + unitF i k) := rfl
          have hmb : win st k (unitF i) * st ≤ 16384 := Nat.le_trans (Nat.mul_le_mul (show _ ≤ 4096 by omega) h4) (by decide)
          generalize hs2 : win st (k + 1) (unitF i) = s2 at *
          have HS2 := Lib.hid hs2
          clear hs2
          generalize win st k (unitF i) = s1 at *
          generalize unitF i k = uk at *
          obtain ⟨pr, hpr⟩ : ∃ pr, pr = s1 * st := ⟨_, rfl⟩
          have hmul : IntKind.i64.wrap ((s1 : Int) * (st : Int)) = (pr : Int) := by
            rw [hpr, show ((s1 : Int) * (st : Int)) = ((s1 * st : Nat) : Int) from by push_cast; rfl, IntKind.wrap_i64]; omega
          have hmul2 : (s1 : Int) * (st : Int) = (pr : Int) := by rw [hpr]; push_cast; rfl
          rw [← hpr] at hmb HNX
          have u1 : IntKind.i64.wrap ((pr : Int) + (uk : Int)) = (pr : Int) + (uk : Int) := by rw [IntKind.wrap_i64]; omega
          have u2 : IntKind.i64.wrap (pr : Int) = (pr : Int) := by rw [IntKind.wrap_i64]; omega
          clear hpr hul hup f5
          go_wp2_with fail
          go_big_quiet (fail)
          have HBW := Lib.hid (below_drewN HBW.out nq)
          clear f3 hcell
          generalize wr.drewN nq = w9 at *
          go_wp2_with fail
          go_roundw
          case rel => exact ⟨k + 1, by omega, by go_num, by rw [HS2.out, HNX.out]; push_cast; rfl, HBW.out⟩
          case measure => simp [intOf]; omega
        · obtain rfl : k = ww := by omega
          have hwu : win st k (unitF i) = st ^ (k - 1 - i) := win_unit k hlt
          have hpn : st ^ (k - 1 - i) < tn := by rw [HTN.out]; exact Nat.pow_lt_pow_right (by omega) (by omega)
          obtain ⟨bt, ot, rfl, _, hct⟩ := (HT.out.keep (HB2.out.trans (HBW.out.mono HB2.out.size))).cells _ hpn
          dsimp only at hct
          rw [HTV.out] at hct
          have hcv : Hid (cof t st k i = t (st ^ (k - 1 - i))) := rfl
          have hcl := HTL.out (st ^ (k - 1 - i))
          rw [hwu]
          generalize st ^ (k - 1 - i) = p at *
          have HOw := Lib.hid (own_keep HO2.out HBW.out)
          have HRw := Lib.hid (HR2.out.keep HBW.out HR2.out.lt)
          have HBw := Lib.hid (HB2.out.trans (HBW.out.mono HB2.out.size))
          have HSN : Hid ((lst (i + 1) (cof t st k)).map (Value.int .i64) = (lst i (cof t st k)).map (Value.int .i64) ++ [.int .i64 ((t p : Nat) : Int)]) := by
            show (lst (i + 1) _).map (Value.int .i64) = _
            rw [lst_succ, map_snoc, hcv.out]
          clear HO2 HR2 HB2 HBW HU HUL HUB HUP hwu hcv f3
          generalize t p = cv at *
          have hnew := row_alloc wr 3 [.int .i64 (cv : Int)]
          have hbn : Below wr.heap.size wr (wr.alloc (.cells [.int .i64 (cv : Int)].toArray 3)) := (Below.refl _ _).alloc (Nat.le_refl _) _
          have HOa := Lib.hid (own_keep HOw.out hbn)
          have HRa := Lib.hid (HRw.out.keep hbn HRw.out.lt)
          have HBa := Lib.hid (HBw.out.trans (hbn.mono HBw.out.size))
          have HCEL := Lib.hid (hnew.cell 0)
          have HSZ : Hid (w.heap.size ≤ (wr.alloc (.cells [.int .i64 (cv : Int)].toArray 3)).heap.size) := HBa.out.size
          clear HOw HRw HBw hnew hbn
          go_wp2_with (at_builtin; refine Ops.wpList_append1 rfl _ _ 22 rfl w.heap.size 3 i0 (.int .i64 0) 8 Tryd.underlying22 HI0.out HZ0.out rfl HZ1.out HZ2.out _ i _ rfl HOa.out ⟨wr.heap.size, 0, none⟩ 1 (.int .i64 cv) rfl HCEL.out rfl ?c1 ?c2 HSZ.out ?_)
          case c1 => unfold maxLen; omega
          case c2 => omega
          intro ao' co' w5 hO3 hg3
          have HB3 := Lib.hid (HBa.out.grown hg3 HSZ.out (own_low HOa.out))
          have HR3 := Lib.hid (row_grown HOa.out hg3 HRa.out (by decide))
          rw [← HSN.out] at hO3
          have HO3 := Lib.hid hO3
          clear hO3 hg3 HOa HBa HRa HCEL HSZ HSN hct f5
          go_wp2_with fail
          go_roundw
          case rel => exact ⟨i + 1, by omega, by go_num, HO3.out, HR3.out, HB3.out⟩
          case measure => simp [intOf]; omega
    · obtain rfl : i = ww := by omega
      have HX := Lib.hid (own_is HO.out lst_len (by unfold maxLen; omega)).1
      have HDL : Hid (∀ N j, dig st i N j < st) := fun N j => dig_lt (by omega)
      have HCL : Hid (∀ j, cof t st i j < st) := fun j => HTL.out _
      obtain ⟨c, hc⟩ : ∃ c, c = cof t st i := ⟨_, rfl⟩
      have HCE := Lib.hid hc
      rw [← hc] at HX HCL
      have HSM : Hid (SumT t st i ↔ ∀ N, N < st ^ i → t N = sumN (fun j => c j * dig st i N j) i % st) := by
        rw [hc]; exact Iff.rfl
      clear hc HO hcap
      go_wp2_with fail
      go_loopw [10] (fun u wr => ∃ N : Nat, N ≤ tn ∧ u = .int .i64 N ∧ (∀ M, M < N → t M = sumN (fun j => c j * dig st i M j) i % st) ∧ Ints.Is wr ao i (lst i c) ∧ Row wr b1 24 (rulL K B S st ra ta tn tc tu) ∧ Below w.heap.size w wr) (fun u _ => tn - (intOf u).toNat)
      case atStart => exact ⟨0, Nat.zero_le _, rfl, fun M hM => absurd hM (Nat.not_lt_zero _), HX.out, HR.out, HB.out⟩
      case round =>
        clear HX HR HB
        obtain ⟨N, hN, rfl, hall, hX, hR, hbel⟩ := hrel
        have HALL := Lib.hid hall
        have HX := Lib.hid hX
        have HR := Lib.hid hR
        have HB := Lib.hid hbel
        clear hall hX hR hbel
        have f5 := HR.out.cell 5
        have f3 := HR.out.cell 3
        unfold rulL at f5 f3
        dsimp only [List.getElem?_cons_succ, List.getElem?_cons_zero] at f5 f3
        by_cases hNt : N < tn
        · have HWN := Lib.hid (fun w2 => window_any (st := st) (n := i) (i := N) h2 h4 (by omega) (by omega) w2)
          go_upto_region 17 with fail
          go_wp2_with fail
          refine (HWN.out _).mono ?_
          rintro e2 w2 ⟨⟨gw, rfl, hI⟩, hb9⟩
          have HW := Lib.hid hI
          have HX := Lib.hid (HX.out.keep hb9)
          have HR := Lib.hid (HR.out.keep hb9 HR.out.lt)
          have HB := Lib.hid (HB.out.trans (hb9.mono HB.out.size))
          clear hI hb9 f5 f3 HWN
          obtain ⟨F, hF⟩ : ∃ F : Nat → Nat, F = fun j => c j * dig st i N j := ⟨_, rfl⟩
          have HFB : Hid (∀ j, j < i → F j ≤ 16) := fun j _ => by
            rw [hF]
            have h1 := HCL.out j
            have h2 := HDL.out N j
            exact Nat.le_trans (Nat.mul_le_mul (show c j ≤ 4 by omega) (show dig st i N j ≤ 4 by omega)) (by decide)
          have HFE : Hid (∀ j, F j = c j * dig st i N j) := fun j => by rw [hF]
          have HFS : Hid (sumN (fun j => c j * dig st i N j) i = sumN F i) := by rw [hF]; rfl
          have HFK : Hid (∀ k, k ≤ i → sumN F k ≤ 16 * k) := fun k hk => sumN_le k fun j hj => HFB.out j (by omega)
          clear hF HFB
          go_wp2_with fail
          obtain ⟨wo, rfl⟩ : ∃ wo : World, wo = w2 := ⟨_, rfl⟩
          go_loopw [12, 13] (fun u v wr => ∃ k : Nat, k ≤ i ∧ v = .int .i64 k ∧ u = .int .i64 ((sumN F k : Nat) : Int) ∧ Below wo.heap.size wo wr) (fun _ v _ => i - (intOf v).toNat)
          case atStart => exact ⟨0, Nat.zero_le _, rfl, rfl, Below.refl _ _⟩
          case round =>
            obtain ⟨k, hk, rfl, rfl, hbel⟩ := hrel
            have HBW := Lib.hid hbel
            clear hbel
            have hsb := HFK.out k hk
            by_cases hkl : k < i
            · obtain ⟨bc, oc, rfl, _, hcc⟩ := (HX.out.keep HBW.out).cells k hkl
              obtain ⟨bw, ow, ew, _, hcw⟩ := (HW.out.keep HBW.out).cells k hkl
              cases ew
              dsimp only at hcc hcw
              rw [lst_get hkl] at hcc hcw
              rw [Nat.zero_add] at hcw
              have hcl := HCL.out k
              have hdl := HDL.out N k
              have HNX : Hid (sumN F (k + 1) = sumN F k + F k) := rfl
              have hfb := HFK.out (k + 1) (by omega)
              rw [HNX.out] at hfb
              have hmul2 : ((c k : Nat) : Int) * ((dig st i N k : Nat) : Int) = ((F k : Nat) : Int) := by
                rw [HFE.out]; push_cast; rfl
              have hmul : IntKind.i64.wrap (((c k : Nat) : Int) * ((dig st i N k : Nat) : Int)) = ((F k : Nat) : Int) := by
                rw [hmul2, IntKind.wrap_i64]; omega
              generalize hs2 : sumN F (k + 1) = s2 at *
              have HS2 := Lib.hid hs2
              clear hs2
              generalize sumN F k = s1 at *
              generalize F k = fk at *
              generalize c k = ck at *
              generalize dig st i N k = dk at *
              have u1 : IntKind.i64.wrap ((s1 : Int) + (fk : Int)) = (s1 : Int) + (fk : Int) := by rw [IntKind.wrap_i64]; omega
              have u2 : IntKind.i64.wrap (fk : Int) = (fk : Int) := by rw [IntKind.wrap_i64]; omega
              go_wp2_with fail
              go_big_quiet (fail)
              have HBW := Lib.hid (below_drewN HBW.out nq)
              clear hcc hcw
              generalize wr.drewN nq = w9 at *
              go_wp2_with fail
              go_roundw
              case rel => exact ⟨k + 1, by omega, by go_num, by rw [HS2.out, HNX.out]; push_cast; rfl, HBW.out⟩
              case measure => simp [intOf]; omega
            · obtain rfl : k = i := by omega
              have HX := Lib.hid (HX.out.keep HBW.out)
              have HR := Lib.hid (HR.out.keep HBW.out HR.out.lt)
              have HB := Lib.hid (HB.out.trans (HBW.out.mono HB.out.size))
              clear HBW HW
              have f5 := HR.out.cell 5
              have f3 := HR.out.cell 3
              unfold rulL at f5 f3
              dsimp only [List.getElem?_cons_succ, List.getElem?_cons_zero] at f5 f3
              obtain ⟨bt, ot, rfl, _, hct⟩ := (HT.out.keep HB.out).cells N hNt
              dsimp only at hct
              rw [HTV.out] at hct
              obtain ⟨x, hx⟩ : ∃ x, x = t N := ⟨_, rfl⟩
              have hxs : x < st := by rw [hx]; exact HTL.out N
              have HXE := Lib.hid hx
              rw [← hx] at hct
              clear hx
              have HSS : Hid (sumN (fun j => c j * dig st k N j) k = sumN F k) := HFS.out
              generalize sumN F k = su at *
              have hmod : ((su : Int)).tmod (st : Int) = ((su % st : Nat) : Int) := Int.ofNat_tmod _ _
              have hml : su % st < st := Nat.mod_lt _ (by omega)
              obtain ⟨rm, hrm⟩ : ∃ rm, rm = su % st := ⟨_, rfl⟩
              rw [← hrm] at hmod hml
              have HRM := Lib.hid hrm
              clear hrm
              by_cases hxr : rm = x
              · have bne : ((rm : Int) != (x : Int)) = false := by rw [hxr, bne_self_eq_false]
                have HA2 : Hid (∀ M, M < N + 1 → t M = sumN (fun j => c j * dig st k M j) k % st) := fun M hM => by
                  rcases Nat.lt_or_eq_of_le (Nat.le_of_lt_succ hM) with h | rfl
                  · exact HALL.out M h
                  · rw [HSS.out, ← HRM.out, ← HXE.out, hxr]
                clear hxr
                go_wp2_with fail
                go_big_quiet (fail)
                have HX := Lib.hid (HX.out.keep (below_drewN (Below.refl _ _) nq))
                have HR := Lib.hid (HR.out.drewN nq)
                have HB := Lib.hid (below_drewN HB.out nq)
                clear f3 f5 hct
                generalize wr.drewN nq = w9 at *
                go_wp2_with fail
                go_roundw
                case rel => exact ⟨N + 1, by omega, by go_num, HA2.out, HX.out, HR.out, HB.out⟩
                case measure => simp [intOf]; omega
              · have bne : ((rm : Int) != (x : Int)) = true := by rw [bne_iff_ne]; omega
                have HNO : Hid (¬ SumT t st k) := fun h => hxr (by
                  have h1 := HSM.out.1 h N (by rw [← HTN.out]; exact hNt)
                  rw [HSS.out, ← HRM.out, ← HXE.out] at h1
                  exact h1.symm)
                clear hxr
                go_wp2_with fail
                go_big_quiet (fail)
                have HB := Lib.hid (below_drewN HB.out nq)
                clear f3 f5 hct
                generalize wr.drewN nq = w9 at *
                go_wp2_with fail
                go_ret2
                exact ⟨.inr ⟨rfl, HNO.out⟩, HB.out⟩
        · obtain rfl : N = tn := by omega
          have HYES : Hid (SumT t st i) := HSM.out.2 fun M hM => HALL.out M (by rw [HTN.out]; exact hM)
          clear f3
          go_wp2_with fail
          go_ret2
          exact ⟨.inl ⟨ao, _, rfl, by rw [← HCE.out]; exact HX.out, HYES.out⟩, HB.out⟩
end Ln
end Go.Proofs.YtahhhbdnhimbfaaDoor
