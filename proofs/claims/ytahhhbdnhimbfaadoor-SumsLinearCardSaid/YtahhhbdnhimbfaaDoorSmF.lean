/- WALK: edenref2.Far. -/
import Derived.Test.YtahhhbdnhimbfaaDoorSmA
import Derived.Test.YtahhhbdnhimbfaaDoorSmC
import Derived.Laws.CopyOwn
namespace Go.Proofs.YtahhhbdnhimbfaaDoor
set_option linter.unusedSimpArgs false
set_option linter.unusedVariables false
open Go.RowKit
namespace Ln
open Tld Mem Sm

theorem splice_all {α : Type} {xs ys : List α} (h : ys.length = xs.length) : splice xs 0 ys = ys := by
  unfold splice
  rw [List.take_zero, List.nil_append, Nat.zero_add, h, List.drop_length, List.append_nil]
theorem is_below2 {w w' : World} {g B n : Nat} {zs : List Int} (h : Ints.Is w (some ⟨g, 0, none⟩) n zs) (hb : Below B w w') (hlt : g < B) : Ints.Is w' (some ⟨g, 0, none⟩) n zs := by
  refine ⟨h.len, fun i hi => ?_, h.le⟩
  obtain ⟨b', o', e, hb', hc⟩ := h.cells i hi
  cases e
  refine ⟨g, 0, rfl, Nat.lt_of_lt_of_le hb' hb.size, ?_⟩
  rw [hb.cell (p := ⟨g, 0 + i, none⟩) hlt]
  exact hc
theorem infoIntS : (Tryd.prog.info? 3).map (·.size) = some 1 := by kernel_rfl
set_option maxHeartbeats 8000000 in
set_option maxRecDepth 1000000 in
theorem far_any (K B S : Int) (st ra : Nat) (ta : Option Addr) (tn tc : Nat) (tz : List Int) (tu : ByteArray) (ca : Option Addr) (cc : Nat) (c : Nat → Nat) (wa : Option Addr) (wn wc : Nat) (wz : List Int) (n : Nat) (w : World) (hT : Ints.Is w ta tn tz) (hC : Ints.Is w ca (2 * ra + 1) (lst (2 * ra + 1) c)) (hcl : ∀ i, c i < st) (hW : Ints.Is w wa wn wz) (hf : wfault K B S st ra tz tu wz = 0) (hs : SumR (wf tz) st ra c) (hn : n ≤ 1000000000000000000) :
    Calls Tryd.prog 16 #[.agg #[.int .i64 K, .int .i64 B, .int .i64 S, .int .i64 st, .int .i64 ra, .slice ta tn tc, .string tu], .slice ca (2 * ra + 1) cc, .slice wa wn wc, .int .i64 n] w fun e w' => (∃ ao co, e = .returned (.slice ao wn co) ∧ Ints.Is w' ao wn (runL (wf tz) st ra wz n)) ∧ Below w.heap.size w w' := by
  obtain ⟨ho, hwn, hz⟩ := wfault_zero hf
  obtain ⟨s', r', es, er, h2, h4, hr5, htn, htl, htz⟩ := ho.nat hT.len
  obtain rfl : st = s' := by omega
  obtain rfl : ra = r' := by omega
  have hwl := hW.len
  rw [hwl] at hwn
  obtain ⟨hR, hB⟩ := row_rule w K B S st ra ta tn tc tu
  have HR : Hid (Row (w.alloc (.cells #[.int .i64 K, .int .i64 B, .int .i64 S, .int .i64 (st : Nat), .int .i64 (ra : Nat), .slice ta tn tc, .string tu] 24)) w.heap.size 24 (rulL K B S st ra ta tn tc tu)) := hR
  have HB : Hid (Below w.heap.size w (w.alloc (.cells #[.int .i64 K, .int .i64 B, .int .i64 S, .int .i64 (st : Nat), .int .i64 (ra : Nat), .slice ta tn tc, .string tu] 24))) := hB
  rcases Nat.eq_zero_or_pos wn with rfl | hpos
  · have HNIL2 : Hid (runL (wf tz) st ra wz n = []) := List.eq_nil_of_length_eq_zero ((runL_len n).trans hwl)
    clear hT hC hcl hW hf hs hz ho htz htn es er hwl hR hB
    go_enter Tryd.func16, Tryd.ntmps16
    go_upto_region 1 with fail
    generalize w.alloc (.cells #[.int .i64 K, .int .i64 B, .int .i64 S, .int .i64 (st : Nat), .int .i64 (ra : Nat), .slice ta tn tc, .string tu] 24) = w1 at *
    go_wp2_with fail
    go_ret
    exact ⟨⟨none, 0, rfl, by rw [HNIL2.out]; exact Ints.Is.nil _⟩, HB.out⟩
  · obtain ⟨i0, hI0, hz0, hz1, hz2⟩ := info_parts infoIntN
    have HI0 := Lib.hid hI0
    have HZ0 := Lib.hid hz0
    have HZ1 := Lib.hid hz1
    have HZ2 := Lib.hid hz2
    have HTL := Lib.hid (wf_lt (st := st) (by omega) htz)
    have HWL : Hid (∀ i, wf wz i < st) := wf_lt (by omega) hz
    have HWE := Lib.hid (runL_go (t := wf tz) (st := st) (R := ra) (wz := wz) (fun z hz' => (hz z hz').1) n)
    have hw0 : lst wn (go (wf tz) st ra wn (wf wz) 0) = wz := by
      have := lst_wf (zs := wz) fun z hz' => (hz z hz').1
      rw [hwl] at this
      exact this
    have HW0 := Lib.hid hw0
    rw [hwl] at HWE
    have HW := Lib.hid hW
    have HC := Lib.hid hC
    have HCL := Lib.hid hcl
    obtain ⟨ww, hww⟩ : ∃ ww, ww = 2 * ra + 1 := ⟨_, rfl⟩
    obtain ⟨t, ht⟩ : ∃ t, t = wf tz := ⟨_, rfl⟩
    rw [← ht] at HTL HWE hs HW0 ⊢
    have HSR := Lib.hid hs
    rw [← hww] at HC ⊢
    have HWW := Lib.hid hww
    have hw11 : ww ≤ 11 := by omega
    clear hI0 hz0 hz1 hz2 hT hC hcl hW hf hs hz ho htz htn es er hwl hR hB hw0 ht hww
    have hst0 : ((st : Int) == 0) = false := by rw [beq_eq_false_iff_ne]; omega
    have hst1 : ¬ st = 0 := by omega
    have bw0 : ((wn : Int) == 0) = false := by rw [beq_eq_false_iff_ne]; omega
    have hwn00 : ¬ wn = 0 := by omega
    go_enter Tryd.func16, Tryd.ntmps16
    go_upto_region 1 with fail
    generalize w.alloc (.cells #[.int .i64 K, .int .i64 B, .int .i64 S, .int .i64 (st : Nat), .int .i64 (ra : Nat), .slice ta tn tc, .string tu] 24) = w1 at *
    obtain ⟨b4, hb4⟩ : ∃ b4, b4 = w.heap.size := ⟨_, rfl⟩
    rw [← hb4] at HR ⊢
    have hle4 : w.heap.size ≤ b4 := by omega
    clear hb4
    go_upto_region 5 with (refine Ops.wpList_make rfl 22 _ _ rfl 3 i0 (.int .i64 0) Tryd.underlying22 HI0.out HZ0.out rfl HZ1.out (by rw [HZ2.out]; decide) wn rfl rfl (by omega) ?_; intro gb w2 hgb hb9 hRb)
    have h4b : b4 < gb := Nat.lt_of_lt_of_le HR.out.lt hgb
    have hwb : w.heap.size ≤ gb := Nat.le_trans HB.out.size hgb
    have HR := Lib.hid (HR.out.keep hb9 HR.out.lt)
    have HB := Lib.hid (HB.out.trans (hb9.mono HB.out.size))
    have HP : Hid (Row w2 gb 3 ((lst wn (fun k => partR wn ra c 0 k % st)).map (Value.int .i64))) := by
      show Row w2 gb 3 _
      rw [show lst wn (fun k => partR wn ra c 0 k % st) = List.replicate wn 0 from by
        apply List.ext_getElem (by simp [lst])
        intro i h1 h2
        simp [lst, partR, sumN], List.map_replicate]
      exact hRb
    clear hb9 hgb hRb
    go_wp2_with fail
    go_loopw [11] (fun u wr => ∃ i : Nat, i ≤ ww ∧ u = .int .i64 i ∧ Row wr gb 3 ((lst wn (fun k => partR wn ra c i k % st)).map (Value.int .i64)) ∧ Row wr b4 24 (rulL K B S st ra ta tn tc tu) ∧ Below w.heap.size w wr) (fun u _ => ww - (intOf u).toNat)
    case atStart => exact ⟨0, Nat.zero_le _, rfl, HP.out, HR.out, HB.out⟩
    case round =>
      clear HP HR HB
      obtain ⟨i, hi, rfl, hP, hR, hbel⟩ := hrel
      have HP := Lib.hid hP
      have HR := Lib.hid hR
      have HB := Lib.hid hbel
      clear hP hR hbel
      by_cases hlt : i < ww
      · obtain ⟨bc, oc, rfl, _, hcc⟩ := (HC.out.keep HB.out).cells i hlt
        dsimp only at hcc
        rw [lst_get hlt] at hcc
        obtain ⟨q, hq1, hq2, hq3, hq4, hq5⟩ := ix_tmod2 (n := wn) (R := ra) (i := i) hpos
        obtain ⟨k0, hk0⟩ : ∃ k0, k0 = ix wn ra i := ⟨_, rfl⟩
        have hk0n : k0 < wn := by rw [hk0]; exact ix_lt hpos
        rw [← hk0] at hq4 hq5
        have f3 := HR.out.cell 3
        have f4 := HR.out.cell 4
        unfold rulL at f3 f4
        dsimp only [List.getElem?_cons_succ, List.getElem?_cons_zero] at f3 f4
        have hcell := (HP.out.cell k0).trans (lst_getI hk0n)
        have hfrz := HP.out.frozen k0
        obtain ⟨ov, hov⟩ : ∃ ov, ov = partR wn ra c i k0 % st := ⟨_, rfl⟩
        have hovm : ov < st := by rw [hov]; exact Nat.mod_lt _ (by omega)
        obtain ⟨x, hx⟩ : ∃ x, x = c i := ⟨_, rfl⟩
        have hx4 : x < st := by rw [hx]; exact HCL.out i
        obtain ⟨nv, hnv⟩ : ∃ nv, nv = (ov + x) % st := ⟨_, rfl⟩
        have hmod : ((ov : Int) + (x : Int)).tmod (st : Int) = (nv : Int) := by
          rw [hnv, show ((ov : Int) + (x : Int)) = ((ov + x : Nat) : Int) from by push_cast; rfl]
          exact Int.ofNat_tmod _ _
        have hnvm : nv < st := by rw [hnv]; exact Nat.mod_lt _ (by omega)
        have hset : Row (wr.setCell ⟨gb, k0, none⟩ (.int .i64 ((nv : Nat) : Int))).drew gb 3 ((lst wn (fun k => partR wn ra c (i + 1) k % st)).map (Value.int .i64)) := by
          have h := HP.out.set k0 (.int .i64 ((nv : Nat) : Int))
          rw [set_mapI, lst_set (G := fun k => partR wn ra c (i + 1) k % st) (v := nv) ?_ ?_] at h
          · exact h.drew
          · show nv = partR wn ra c (i + 1) k0 % st
            rw [partR_next, if_pos hk0.symm, hnv, hov, hx, Nat.mod_add_mod]
          · intro k hk hne
            show partR wn ra c i k % st = partR wn ra c (i + 1) k % st
            rw [partR_next, if_neg (fun h => hne (by rw [hk0]; exact h.symm)), Nat.add_zero]
        have ho : Only gb wr (wr.setCell ⟨gb, k0, none⟩ (.int .i64 ((nv : Nat) : Int))).drew := (only_setCell wr gb k0 (.int .i64 ((nv : Nat) : Int))).trans ⟨rfl, rfl, rfl, rfl, fun _ _ => rfl⟩
        have HSET := Lib.hid hset
        have HR2 := Lib.hid (HR.out.other ho (by omega))
        have HB2 := Lib.hid (HB.out.trans (ho.below hwb))
        rw [← hov] at hcell
        rw [← hx] at hcc
        have u1 : IntKind.i64.wrap ((ov : Int) + (x : Int)) = (ov : Int) + (x : Int) := by rw [IntKind.wrap_i64]; omega
        clear hset ho HP HR HB hov hx hnv hk0
        --{P1
        by_cases hq0 : q < 0
        · have hqk := hq4 hq0
          have dq : decide (q < 0) = true := decide_eq_true hq0
          clear hq4 hq5
          go_wp2_with fail
          go_region_with (fail)
          all_goals
            clear f3 f4 hcell hfrz hcc
            generalize (wr.setCell ⟨gb, k0, none⟩ (.int .i64 ((nv : Nat) : Int))).drew = w9 at *
            go_wp2_with fail
            go_roundw
            case rel => exact ⟨i + 1, by omega, by go_num, HSET.out, HR2.out, HB2.out⟩
            case measure => simp [intOf]; omega
        · have hqk := hq5 (by omega)
          have dq : decide ((k0 : Int) < 0) = false := decide_eq_false (by omega)
          subst hqk
          clear hq4 hq5
          go_wp2_with fail
          go_region_with (fail)
          all_goals
            clear f3 f4 hcell hfrz hcc
            generalize (wr.setCell ⟨gb, k0, none⟩ (.int .i64 ((nv : Nat) : Int))).drew = w9 at *
            go_wp2_with fail
            go_roundw
            case rel => exact ⟨i + 1, by omega, by go_num, HSET.out, HR2.out, HB2.out⟩
            case measure => simp [intOf]; omega
        --}
      · obtain rfl : i = ww := by omega
        have HBY := Lib.hid (row_isN HP.out lst_len (by unfold maxLen; omega))
        have HDO : Hid (DoesR t st ra wn (wf (lst wn (fun k => partR wn ra c i k % st))) 1) := doesR_congr hpos (doesR_one HSR.out hpos) fun k hk => by
          rw [wf_lst hk, HWW.out]; rfl
        have HBL : Hid (∀ z ∈ lst wn (fun k => partR wn ra c i k % st), 0 ≤ z ∧ z < (st : Int)) := lst_mem fun k => Nat.mod_lt _ (by omega)
        generalize lst wn (fun k => partR wn ra c i k % st) = bz at *
        clear HP HSR HWW
        go_upto_region 13 with (refine Ops.wpList_make rfl 22 _ _ rfl 3 i0 (.int .i64 0) Tryd.underlying22 HI0.out HZ0.out rfl HZ1.out (by rw [HZ2.out]; decide) wn rfl rfl (by omega) ?_; intro go0 w3 hgo hb9 hRo)
        have hwo : w.heap.size ≤ go0 := Nat.le_trans HB.out.size hgo
        have HR := Lib.hid (HR.out.keep hb9 HR.out.lt)
        have HBY0 := HBY
        have HBY := Lib.hid (HBY.out.keep hb9)
        have HB := Lib.hid (HB.out.trans (hb9.mono HB.out.size))
        obtain ⟨cs, hcs⟩ : ∃ cs : List Value, cs = wz.map (Value.int .i64) := ⟨_, rfl⟩
        obtain ⟨zs, hzs⟩ : ∃ zs : List Value, zs = List.replicate wn (Value.int .i64 0) := ⟨_, rfl⟩
        have hwl := HW.out.len
        have hcsl : cs.length = wn := by rw [hcs]; simp [hwl]
        have hzsl : zs.length = wn := by rw [hzs]; simp
        rw [← hzs] at hRo
        have HRO := Lib.hid hRo
        obtain ⟨bw, ow, rfl, _, _⟩ := HW.out.cells 0 hpos
        have HSRC : Hid (∀ j v, cs[j]? = some v → w3.cell? ((⟨bw, ow, none⟩ : Addr).add j) = some v) := fun j v hv => by
          have hj : j < wn := by rw [← hcsl]; exact (List.getElem?_eq_some_iff.1 hv).1
          have h := cells_get (HW.out.keep HB.out).cells rfl hj
          rw [h, ← hv, hcs, List.getElem?_map, List.getElem?_eq_getElem (by omega)]
          simp [List.getD_eq_getElem?_getD, List.getElem?_eq_getElem (show j < wz.length by omega)]
        have HONE : Hid (∀ v ∈ cs, v.oneCell' = true) := fun v hv => by
          rw [hcs] at hv
          obtain ⟨z, _, rfl⟩ := List.mem_map.1 hv
          rfl
        have HCS := Lib.hid hcs
        have HCSL := Lib.hid hcsl
        have HZSL := Lib.hid hzsl
        have h4o : Hid (b4 < w3.heap.size) := HR.out.lt
        have HGO : Hid (gb < go0) := Nat.lt_of_lt_of_le (by
          obtain ⟨b, o, e, hlt, _⟩ := HBY0.out.cells 0 hpos
          cases e; exact hlt) hgo
        clear hb9 hgo hRo hcs hzs hwl hcsl hzsl HBY0
        go_wp2_with ((with_reducible show wpList _ _ _ _ _ _); refine wpList_copy_splice (o := ⟨some 63, _, _, _, _, _⟩) rfl (.tmp 61) (.tmp 62) 22 22 rfl 3 Tryd.underlying22 infoIntS _ _ wn wn wn wc rfl rfl go0 0 zs 3 HRO.out cs ?c1 ?c2 ?c3 HONE.out go0 w3 (Below.refl _ _) (Nat.le_refl _) ?_)

        case c1 => rw [HCSL.out]
        case c2 =>
          intro _ j v hv
          have h := HSRC.out j v hv
          rcases Nat.eq_zero_or_pos j with rfl | hj
          · simpa [Addr.add] using h
          · simpa [Addr.add, Nat.ne_of_gt hj] using h
        case c3 => rw [HCSL.out, HZSL.out]; omega
        intro w4 HG4 hb4
        have HO : Hid (Ints.Is w4 (some ⟨go0, 0, none⟩) wn (lst wn (go t st ra wn (wf wz) 0))) := by
          have h1 := HG4.out
          rw [splice_all (by rw [HCSL.out, HZSL.out]), HCS.out] at h1
          rw [HW0.out]
          exact row_isN h1 HW.out.len (by unfold maxLen; omega)
        have HR := Lib.hid (HR.out.keep hb4 (by have := h4b; have := HGO.out; omega))
        have HBY := Lib.hid (is_below2 HBY.out hb4 HGO.out)
        have HB := Lib.hid (HB.out.trans (hb4.mono hwo))
        clear HG4 hb4 HRO HSRC HONE HCS HCSL HZSL h4o HGO h4b hwb hwo HW0 HC HCL
        go_wp2_with fail
        go_loopw [3, 10, 13] (fun u b v wr => ∃ (nn d e gb go0 : Nat) (bz : List Int), u = .int .i64 nn ∧ nn ≤ n ∧ d + nn * e = n ∧ b = .slice (some ⟨gb, 0, none⟩) wn wn ∧ v = .slice (some ⟨go0, 0, none⟩) wn wn ∧ Ints.Is wr (some ⟨gb, 0, none⟩) wn bz ∧ Ints.Is wr (some ⟨go0, 0, none⟩) wn (lst wn (go t st ra wn (wf wz) d)) ∧ (∀ z ∈ bz, 0 ≤ z ∧ z < (st : Int)) ∧ DoesR t st ra wn (wf bz) e ∧ Row wr b4 24 (rulL K B S st ra ta tn tc tu) ∧ Below w.heap.size w wr) (fun u _ _ _ => (intOf u).toNat)
        case atStart => exact ⟨n, 0, 1, gb, go0, bz, rfl, Nat.le_refl _, by omega, rfl, rfl, HBY.out, HO.out, HBL.out, HDO.out, HR.out, HB.out⟩
        case round =>
          clear HBY HO HBL HDO HR HB
          obtain ⟨nn, d, e, gb, go0, bz, rfl, hnn, hde, rfl, rfl, hBY, hO, hBL, hDO, hR, hbel⟩ := hrel
          have HBY := Lib.hid hBY
          have HO := Lib.hid hO
          have HBL := Lib.hid hBL
          have HDO := Lib.hid hDO
          have HDE := Lib.hid hde
          have HR := Lib.hid hR
          have HB := Lib.hid hbel
          clear hBY hO hBL hDO hR hbel hde
          by_cases hp : 0 < nn
          · have dnn : decide ((0 : Int) < (nn : Int)) = true := decide_eq_true (by omega)
            have dnn2 : decide (0 < nn) = true := decide_eq_true hp
            have hdiv : ((nn : Nat) : Int).tdiv 2 = ((nn / 2 : Nat) : Int) := Int.ofNat_tdiv _ _
            have hql : nn / 2 < nn := by omega
            by_cases hodd : nn % 2 = 1
            · have hmod : ((nn : Nat) : Int).tmod 2 = 1 := by
                have : ((nn : Nat) : Int).tmod 2 = ((nn % 2 : Nat) : Int) := Int.ofNat_tmod _ _
                rw [this, hodd]; rfl
              have HDN : Hid (d + e + nn / 2 * (2 * e) = n) := by
                show d + e + nn / 2 * (2 * e) = n
                have h1 : nn = 2 * (nn / 2) + 1 := by omega
                have h2 := HDE.out
                have h3 : nn * e = nn / 2 * (2 * e) + e := by
                  conv => lhs; rw [h1]
                  rw [Nat.add_mul, Nat.one_mul, Nat.mul_comm 2, Nat.mul_assoc]
                omega
              clear hodd
              generalize nn / 2 = q at *
              --{ODD
              go_upto_region 17 with (refine Ops.wpList_make rfl 22 _ _ rfl 3 i0 (.int .i64 0) Tryd.underlying22 HI0.out HZ0.out rfl HZ1.out (by rw [HZ2.out]; decide) wn rfl rfl (by omega) ?_; intro gn w5 hgn hb9 hRn)
              have hbn : gb ≠ gn := by
                obtain ⟨b, o, e, hlt, _⟩ := HBY.out.cells 0 hpos
                cases e; omega
              have hon : go0 ≠ gn := by
                obtain ⟨b, o, e, hlt, _⟩ := HO.out.cells 0 hpos
                cases e; omega
              have h4n : b4 < gn := Nat.lt_of_lt_of_le HR.out.lt hgn
              have hwn5 : w.heap.size ≤ gn := Nat.le_trans HB.out.size hgn
              have HBY := Lib.hid (HBY.out.keep hb9)
              have HO := Lib.hid (HO.out.keep hb9)
              have HR := Lib.hid (HR.out.keep hb9 HR.out.lt)
              have HB := Lib.hid (HB.out.trans (hb9.mono HB.out.size))
              obtain ⟨A, hAe⟩ : ∃ A, A = wf bz := ⟨_, rfl⟩
              obtain ⟨V, hVe⟩ : ∃ V, V = go t st ra wn (wf wz) d := ⟨_, rfl⟩
              have HAV : Hid (∀ k, bz.getD k 0 = ((A k : Nat) : Int)) := by rw [hAe]; exact wf_at (zs := bz) fun z hz => (HBL.out z hz).1
              have HAL : Hid (∀ k, A k < st) := by rw [hAe]; exact wf_lt (by omega) HBL.out
              have HVL : Hid (∀ k, V k < st) := by rw [hVe]; exact go_lt HTL.out HWL.out d
              have HVE := Lib.hid hVe
              have HAE := Lib.hid hAe
              rw [← hVe] at HO
              have HN : Hid (Row w5 gn 3 ((lst wn (fun i => nxtF wn st A V 0 0 i)).map (Value.int .i64))) := by
                show Row w5 gn 3 _
                rw [show lst wn (fun i => nxtF wn st A V 0 0 i) = List.replicate wn 0 from by
                  apply List.ext_getElem (by simp [lst])
                  intro i h1 h2
                  simp [lst, nxtF_zero], List.map_replicate]
                exact hRn
              clear hb9 hgn hRn hAe hVe
              go_wp2_with fail
              obtain ⟨wo, rfl⟩ : ∃ wo : World, wo = w5 := ⟨_, rfl⟩
              go_loopw [15] (fun u wr => ∃ j : Nat, j ≤ wn ∧ u = .int .i64 j ∧ Row wr gn 3 ((lst wn (fun i => nxtF wn st A V j 0 i)).map (Value.int .i64)) ∧ Only gn wo wr) (fun u _ => wn - (intOf u).toNat)
              case atStart => exact ⟨0, Nat.zero_le _, rfl, HN.out, Only.refl _ _⟩
              case round =>
                clear HN
                obtain ⟨j, hj, rfl, hN, ho⟩ := hrel
                have HN := Lib.hid hN
                have HOn := Lib.hid ho
                clear hN ho
                by_cases hjl : j < wn
                · go_wp2_with fail
                  go_loopw [16] (fun u wr => ∃ k : Nat, k ≤ wn ∧ u = .int .i64 k ∧ Row wr gn 3 ((lst wn (fun i => nxtF wn st A V j k i)).map (Value.int .i64)) ∧ Only gn wo wr) (fun u _ => wn - (intOf u).toNat)
                  case atStart => exact ⟨0, Nat.zero_le _, rfl, HN.out, HOn.out⟩
                  case round =>
                    clear HN HOn
                    obtain ⟨k, hk, rfl, hN, ho⟩ := hrel
                    have HN := Lib.hid hN
                    have HOn := Lib.hid ho
                    clear hN ho
                    by_cases hkl : k < wn
                    · --{N1
                      obtain ⟨m, hm⟩ : ∃ m, m = (j + k) % wn := ⟨_, rfl⟩
                      have hmn : m < wn := by rw [hm]; exact Nat.mod_lt _ hpos
                      have hkm : ((j : Int) + (k : Int)).tmod (wn : Int) = (m : Int) := by
                        rw [hm, show ((j : Int) + (k : Int)) = ((j + k : Nat) : Int) from by push_cast; rfl]
                        exact Int.ofNat_tmod _ _
                      obtain ⟨bb, ob, eb, _, hcb⟩ := (is_other HBY.out HOn.out hbn).cells k hkl
                      cases eb
                      obtain ⟨bo, oo, eo, _, hco⟩ := (is_other HO.out HOn.out hon).cells m hmn
                      cases eo
                      dsimp only at hcb hco
                      rw [HAV.out, Nat.zero_add] at hcb
                      rw [lst_get hmn, Nat.zero_add] at hco
                      have f3 := (HR.out.other HOn.out (by omega)).cell 3
                      unfold rulL at f3
                      dsimp only [List.getElem?_cons_succ, List.getElem?_cons_zero] at f3
                      have hcell := (HN.out.cell j).trans (lst_getI hjl)
                      have hfrz := HN.out.frozen j
                      obtain ⟨ov, hov⟩ : ∃ ov, ov = nxtF wn st A V j k j := ⟨_, rfl⟩
                      have hovm : ov < st := by rw [hov, nxtF_at]; exact Nat.mod_lt _ (by omega)
                      obtain ⟨x, hx⟩ : ∃ x, x = A k := ⟨_, rfl⟩
                      have hx4 : x < st := by rw [hx]; exact HAL.out k
                      obtain ⟨y, hy⟩ : ∃ y, y = V m := ⟨_, rfl⟩
                      have hy4 : y < st := by rw [hy]; exact HVL.out m
                      obtain ⟨pr, hpr⟩ : ∃ pr, pr = x * y := ⟨_, rfl⟩
                      have hpr16 : pr ≤ 16 := by
                        have := Nat.mul_le_mul (show x ≤ 4 by omega) (show y ≤ 4 by omega)
                        omega
                      obtain ⟨nv, hnv⟩ : ∃ nv, nv = (ov + pr) % st := ⟨_, rfl⟩
                      have hnvm : nv < st := by rw [hnv]; exact Nat.mod_lt _ (by omega)
                      have hset : Row (wr.setCell ⟨gn, j, none⟩ (.int .i64 ((nv : Nat) : Int))).drew gn 3 ((lst wn (fun i => nxtF wn st A V j (k + 1) i)).map (Value.int .i64)) := by
                        have h := HN.out.set j (.int .i64 ((nv : Nat) : Int))
                        rw [set_mapI, lst_set (G := fun i => nxtF wn st A V j (k + 1) i) (v := nv) ?_ ?_] at h
                        · exact h.drew
                        · show nv = nxtF wn st A V j (k + 1) j
                          rw [nxtF_next, ← hov, ← hm, ← hy, ← hx, ← hpr, hnv]
                        · intro i hi hne
                          exact nxtF_other hne
                      have ho : Only gn wr (wr.setCell ⟨gn, j, none⟩ (.int .i64 ((nv : Nat) : Int))).drew := (only_setCell wr gn j (.int .i64 ((nv : Nat) : Int))).trans ⟨rfl, rfl, rfl, rfl, fun _ _ => rfl⟩
                      have HSET := Lib.hid hset
                      have HOn2 := Lib.hid (HOn.out.trans ho)
                      rw [← hov] at hcell
                      rw [← hx] at hcb
                      rw [← hy] at hco
                      have hmul2 : (x : Int) * (y : Int) = (pr : Int) := by rw [hpr]; push_cast; rfl
                      have hmul : IntKind.i64.wrap ((x : Int) * (y : Int)) = (pr : Int) := by
                        rw [hmul2, IntKind.wrap_i64]; omega
                      have hmod : ((ov : Int) + (pr : Int)).tmod (st : Int) = (nv : Int) := by
                        rw [hnv, show ((ov : Int) + (pr : Int)) = ((ov + pr : Nat) : Int) from by push_cast; rfl]
                        exact Int.ofNat_tmod _ _
                      have u1 : IntKind.i64.wrap ((ov : Int) + (pr : Int)) = (ov : Int) + (pr : Int) := by rw [IntKind.wrap_i64]; omega
                      have u2 : IntKind.i64.wrap ((j : Int) + (k : Int)) = (j : Int) + (k : Int) := by rw [IntKind.wrap_i64]; omega
                      have u3 : IntKind.i64.wrap (pr : Int) = (pr : Int) := by rw [IntKind.wrap_i64]; omega
                      clear hset ho HN HOn hov hx hy hpr hnv hm
                      go_wp2_with fail
                      go_region_with (fail)
                      all_goals
                        clear f3 hcell hfrz hcb hco
                        generalize (wr.setCell ⟨gn, j, none⟩ (.int .i64 ((nv : Nat) : Int))).drew = w9 at *
                        go_wp2_with fail
                        go_roundw
                        case rel => exact ⟨k + 1, by omega, by go_num, HSET.out, HOn2.out⟩
                        case measure => simp [intOf]; omega
                      --}
                    · obtain rfl : k = wn := by omega
                      have HN : Hid (Row wr gn 3 ((lst k (fun i => nxtF k st A V (j + 1) 0 i)).map (Value.int .i64))) := by
                        rw [show lst k (fun i => nxtF k st A V (j + 1) 0 i) = lst k (fun i => nxtF k st A V j k i) from lst_congr fun i _ => (nxtF_row k st A V j i).symm]
                        exact HN.out
                      go_wp2_with fail
                      go_roundw
                      case rel => exact ⟨j + 1, by omega, by go_num, HN.out, HOn.out⟩
                      case measure => simp [intOf]; omega
                · obtain rfl : j = wn := by omega
                  have hle : d + e ≤ n ∨ True := .inr trivial
                  have HO2 : Hid (Ints.Is wr (some ⟨gn, 0, none⟩) j (lst j (go t st ra j (wf wz) (d + e)))) := by
                    have h1 := row_isN HN.out lst_len (by unfold maxLen; omega)
                    rw [show lst j (fun i => nxtF j st A V j 0 i) = lst j (go t st ra j (wf wz) (d + e)) from lst_congr fun i hi => by
                      rw [nxtF_all hi, HAE.out, HVE.out]
                      exact doesR_comp hpos (go_lt HTL.out HWL.out d) HDO.out (fun _ _ => rfl) i hi] at h1
                    exact h1
                  have HBY := Lib.hid (is_other HBY.out HOn.out hbn)
                  have HR := Lib.hid (HR.out.other HOn.out (by omega))
                  have HB := Lib.hid (HB.out.trans (HOn.out.below hwn5))
                  clear HN HOn HO HAV HAL HVL HVE HAE hle
                  go_upto_region 25 with fail
                  go_upto_region 26 with (refine Ops.wpList_make rfl 22 _ _ rfl 3 i0 (.int .i64 0) Tryd.underlying22 HI0.out HZ0.out rfl HZ1.out (by rw [HZ2.out]; decide) j rfl rfl (by omega) ?_; intro gt w6 hgt hb9 hRt)
                  have hbt : gb ≠ gt := by
                    obtain ⟨b, o, e, hlt, _⟩ := HBY.out.cells 0 hpos
                    cases e; omega
                  have hot : gn ≠ gt := by
                    obtain ⟨b, o, e, hlt, _⟩ := HO2.out.cells 0 hpos
                    cases e; omega
                  have h4t : b4 < gt := Nat.lt_of_lt_of_le HR.out.lt hgt
                  have hwt : w.heap.size ≤ gt := Nat.le_trans HB.out.size hgt
                  have HBY := Lib.hid (HBY.out.keep hb9)
                  have HO2 := Lib.hid (HO2.out.keep hb9)
                  have HR := Lib.hid (HR.out.keep hb9 HR.out.lt)
                  have HB := Lib.hid (HB.out.trans (hb9.mono HB.out.size))
                  obtain ⟨A, hAe⟩ : ∃ A, A = wf bz := ⟨_, rfl⟩
                  have HAV : Hid (∀ k, bz.getD k 0 = ((A k : Nat) : Int)) := by rw [hAe]; exact wf_at (zs := bz) fun z hz => (HBL.out z hz).1
                  have HAL : Hid (∀ k, A k < st) := by rw [hAe]; exact wf_lt (by omega) HBL.out
                  have HAE := Lib.hid hAe
                  have HN : Hid (Row w6 gt 3 ((lst j (fun i => acc A A j 0 0 i % st)).map (Value.int .i64))) := by
                    show Row w6 gt 3 _
                    rw [show lst j (fun i => acc A A j 0 0 i % st) = List.replicate j 0 from by
                      apply List.ext_getElem (by simp [lst])
                      intro i h1 h2
                      simp [lst, acc_zero], List.map_replicate]
                    exact hRt
                  clear hb9 hgt hRt hAe
                  go_wp2_with fail
                  obtain ⟨wp, rfl⟩ : ∃ wp : World, wp = w6 := ⟨_, rfl⟩
                  go_loopw [18] (fun u wr => ∃ jj : Nat, jj ≤ j ∧ u = .int .i64 jj ∧ Row wr gt 3 ((lst j (fun i => acc A A j jj 0 i % st)).map (Value.int .i64)) ∧ Only gt wp wr) (fun u _ => j - (intOf u).toNat)
                  case atStart => exact ⟨0, Nat.zero_le _, rfl, HN.out, Only.refl _ _⟩
                  case round =>
                    clear HN
                    obtain ⟨jj, hjj, rfl, hN, ho⟩ := hrel
                    have HN := Lib.hid hN
                    have HOn := Lib.hid ho
                    clear hN ho
                    by_cases hjl : jj < j
                    · go_wp2_with fail
                      go_loopw [19] (fun u wr => ∃ k : Nat, k ≤ j ∧ u = .int .i64 k ∧ Row wr gt 3 ((lst j (fun i => acc A A j jj k i % st)).map (Value.int .i64)) ∧ Only gt wp wr) (fun u _ => j - (intOf u).toNat)
                      case atStart => exact ⟨0, Nat.zero_le _, rfl, HN.out, HOn.out⟩
                      case round =>
                        clear HN HOn
                        obtain ⟨k, hk, rfl, hN, ho⟩ := hrel
                        have HN := Lib.hid hN
                        have HOn := Lib.hid ho
                        clear hN ho
                        by_cases hkl : k < j
                        · --{T1
                          obtain ⟨m, hm⟩ : ∃ m, m = (jj + k) % j := ⟨_, rfl⟩
                          have hmn : m < j := by rw [hm]; exact Nat.mod_lt _ hpos
                          have hkm : ((jj : Int) + (k : Int)).tmod (j : Int) = (m : Int) := by
                            rw [hm, show ((jj : Int) + (k : Int)) = ((jj + k : Nat) : Int) from by push_cast; rfl]
                            exact Int.ofNat_tmod _ _
                          have HBY2 := Lib.hid (is_other HBY.out HOn.out hbt)
                          obtain ⟨bb, ob, eb, _, hcb⟩ := HBY2.out.cells k hkl
                          cases eb
                          obtain ⟨bo, oo, eo, _, hco⟩ := HBY2.out.cells jj hjl
                          cases eo
                          dsimp only at hcb hco
                          rw [HAV.out, Nat.zero_add] at hcb
                          rw [HAV.out, Nat.zero_add] at hco
                          have f3 := (HR.out.other HOn.out (by omega)).cell 3
                          unfold rulL at f3
                          dsimp only [List.getElem?_cons_succ, List.getElem?_cons_zero] at f3
                          have hcell := (HN.out.cell m).trans (lst_getI hmn)
                          have hfrz := HN.out.frozen m
                          obtain ⟨ov, hov⟩ : ∃ ov, ov = acc A A j jj k m % st := ⟨_, rfl⟩
                          have hovm : ov < st := by rw [hov]; exact Nat.mod_lt _ (by omega)
                          obtain ⟨x, hx⟩ : ∃ x, x = A jj := ⟨_, rfl⟩
                          have hx4 : x < st := by rw [hx]; exact HAL.out jj
                          obtain ⟨y, hy⟩ : ∃ y, y = A k := ⟨_, rfl⟩
                          have hy4 : y < st := by rw [hy]; exact HAL.out k
                          obtain ⟨pr, hpr⟩ : ∃ pr, pr = x * y := ⟨_, rfl⟩
                          have hpr16 : pr ≤ 16 := by
                            have := Nat.mul_le_mul (show x ≤ 4 by omega) (show y ≤ 4 by omega)
                            omega
                          obtain ⟨nv, hnv⟩ : ∃ nv, nv = (ov + pr) % st := ⟨_, rfl⟩
                          have hnvm : nv < st := by rw [hnv]; exact Nat.mod_lt _ (by omega)
                          have hset : Row (wr.setCell ⟨gt, m, none⟩ (.int .i64 ((nv : Nat) : Int))).drew gt 3 ((lst j (fun i => acc A A j jj (k + 1) i % st)).map (Value.int .i64)) := by
                            have h := HN.out.set m (.int .i64 ((nv : Nat) : Int))
                            rw [set_mapI, lst_set (G := fun i => acc A A j jj (k + 1) i % st) (v := nv) ?_ ?_] at h
                            · exact h.drew
                            · show nv = acc A A j jj (k + 1) m % st
                              rw [acc_next, if_pos hm.symm, hnv, hov, hpr, hx, hy, Nat.mod_add_mod]
                            · intro i hi hne
                              show acc A A j jj k i % st = acc A A j jj (k + 1) i % st
                              rw [acc_next, if_neg (fun h => hne (by rw [hm]; exact h.symm)), Nat.add_zero]
                          have ho : Only gt wr (wr.setCell ⟨gt, m, none⟩ (.int .i64 ((nv : Nat) : Int))).drew := (only_setCell wr gt m (.int .i64 ((nv : Nat) : Int))).trans ⟨rfl, rfl, rfl, rfl, fun _ _ => rfl⟩
                          have HSET := Lib.hid hset
                          have HOn2 := Lib.hid (HOn.out.trans ho)
                          rw [← hov] at hcell
                          rw [← hx] at hco
                          rw [← hy] at hcb
                          have hmul2 : (x : Int) * (y : Int) = (pr : Int) := by rw [hpr]; push_cast; rfl
                          have hmul : IntKind.i64.wrap ((x : Int) * (y : Int)) = (pr : Int) := by
                            rw [hmul2, IntKind.wrap_i64]; omega
                          have hmod : ((ov : Int) + (pr : Int)).tmod (st : Int) = (nv : Int) := by
                            rw [hnv, show ((ov : Int) + (pr : Int)) = ((ov + pr : Nat) : Int) from by push_cast; rfl]
                            exact Int.ofNat_tmod _ _
                          have u1 : IntKind.i64.wrap ((ov : Int) + (pr : Int)) = (ov : Int) + (pr : Int) := by rw [IntKind.wrap_i64]; omega
                          have u2 : IntKind.i64.wrap ((jj : Int) + (k : Int)) = (jj : Int) + (k : Int) := by rw [IntKind.wrap_i64]; omega
                          have u3 : IntKind.i64.wrap (pr : Int) = (pr : Int) := by rw [IntKind.wrap_i64]; omega
                          clear hset ho HN HOn hov hx hy hpr hnv hm HBY2
                          go_wp2_with fail
                          go_region_with (fail)
                          all_goals
                            clear f3 hcell hfrz hcb hco
                            generalize (wr.setCell ⟨gt, m, none⟩ (.int .i64 ((nv : Nat) : Int))).drew = w9 at *
                            go_wp2_with fail
                            go_roundw
                            case rel => exact ⟨k + 1, by omega, by go_num, HSET.out, HOn2.out⟩
                            case measure => simp [intOf]; omega
                          --}
                        · have ek : k = j := by omega
                          subst ek
                          go_wp2_with fail
                          go_roundw
                          case rel => exact ⟨jj + 1, by omega, by go_num, HN.out, HOn.out⟩
                          case measure => simp [intOf]; omega
                    · have ej : jj = j := by omega
                      subst ej
                      have HBT := Lib.hid (row_isN HN.out lst_len (by unfold maxLen; omega))
                      have HD2 : Hid (DoesR t st ra jj (wf (lst jj (fun i => acc A A jj jj 0 i % st))) (2 * e)) := doesR_congr hpos (doesR_twice hpos (by omega) HTL.out HDO.out) fun k hk => by
                        rw [wf_lst hk, acc_conv, HAE.out]
                      have HB2L : Hid (∀ z ∈ lst jj (fun i => acc A A jj jj 0 i % st), 0 ≤ z ∧ z < (st : Int)) := lst_mem fun k => Nat.mod_lt _ (by omega)
                      have HO2 := Lib.hid (is_other HO2.out HOn.out hot)
                      have HR := Lib.hid (HR.out.other HOn.out (by omega))
                      have HB := Lib.hid (HB.out.trans (HOn.out.below hwt))
                      clear HN HOn HBY HAV HAL HAE
                      generalize lst jj (fun i => acc A A jj jj 0 i % st) = bz2 at *
                      go_wp2_with fail
                      go_roundw
                      case rel => exact ⟨q, d + e, 2 * e, gt, gn, bz2, rfl, by omega, HDN.out, rfl, rfl, HBT.out, HO2.out, HB2L.out, HD2.out, HR.out, HB.out⟩
                      case measure => simp [intOf]; omega
              --}
            · have hmod : ((nn : Nat) : Int).tmod 2 = 0 := by
                have : ((nn : Nat) : Int).tmod 2 = ((nn % 2 : Nat) : Int) := Int.ofNat_tmod _ _
                rw [this, show nn % 2 = 0 by omega]; rfl
              have HDN : Hid (d + nn / 2 * (2 * e) = n) := by
                show d + nn / 2 * (2 * e) = n
                have h1 : nn = 2 * (nn / 2) := by omega
                have h2 := HDE.out
                have h3 : nn * e = nn / 2 * (2 * e) := by
                  conv => lhs; rw [h1]
                  rw [Nat.mul_comm 2, Nat.mul_assoc]
                omega
              clear hodd
              generalize nn / 2 = q at *
              have HO2 := HO
              clear HO
              --{EVEN
              go_upto_region 25 with fail
              go_upto_region 26 with (refine Ops.wpList_make rfl 22 _ _ rfl 3 i0 (.int .i64 0) Tryd.underlying22 HI0.out HZ0.out rfl HZ1.out (by rw [HZ2.out]; decide) wn rfl rfl (by omega) ?_; intro gt w6 hgt hb9 hRt)
              have hbt : gb ≠ gt := by
                obtain ⟨b, o, e, hlt, _⟩ := HBY.out.cells 0 hpos
                cases e; omega
              have hot : go0 ≠ gt := by
                obtain ⟨b, o, e, hlt, _⟩ := HO2.out.cells 0 hpos
                cases e; omega
              have h4t : b4 < gt := Nat.lt_of_lt_of_le HR.out.lt hgt
              have hwt : w.heap.size ≤ gt := Nat.le_trans HB.out.size hgt
              have HBY := Lib.hid (HBY.out.keep hb9)
              have HO2 := Lib.hid (HO2.out.keep hb9)
              have HR := Lib.hid (HR.out.keep hb9 HR.out.lt)
              have HB := Lib.hid (HB.out.trans (hb9.mono HB.out.size))
              obtain ⟨A, hAe⟩ : ∃ A, A = wf bz := ⟨_, rfl⟩
              have HAV : Hid (∀ k, bz.getD k 0 = ((A k : Nat) : Int)) := by rw [hAe]; exact wf_at (zs := bz) fun z hz => (HBL.out z hz).1
              have HAL : Hid (∀ k, A k < st) := by rw [hAe]; exact wf_lt (by omega) HBL.out
              have HAE := Lib.hid hAe
              have HN : Hid (Row w6 gt 3 ((lst wn (fun i => acc A A wn 0 0 i % st)).map (Value.int .i64))) := by
                show Row w6 gt 3 _
                rw [show lst wn (fun i => acc A A wn 0 0 i % st) = List.replicate wn 0 from by
                  apply List.ext_getElem (by simp [lst])
                  intro i h1 h2
                  simp [lst, acc_zero], List.map_replicate]
                exact hRt
              clear hb9 hgt hRt hAe
              go_wp2_with fail
              obtain ⟨wp, rfl⟩ : ∃ wp : World, wp = w6 := ⟨_, rfl⟩
              go_loopw [18] (fun u wr => ∃ jj : Nat, jj ≤ wn ∧ u = .int .i64 jj ∧ Row wr gt 3 ((lst wn (fun i => acc A A wn jj 0 i % st)).map (Value.int .i64)) ∧ Only gt wp wr) (fun u _ => wn - (intOf u).toNat)
              case atStart => exact ⟨0, Nat.zero_le _, rfl, HN.out, Only.refl _ _⟩
              case round =>
                clear HN
                obtain ⟨jj, hjj, rfl, hN, ho⟩ := hrel
                have HN := Lib.hid hN
                have HOn := Lib.hid ho
                clear hN ho
                by_cases hjl : jj < wn
                · go_wp2_with fail
                  go_loopw [19] (fun u wr => ∃ k : Nat, k ≤ wn ∧ u = .int .i64 k ∧ Row wr gt 3 ((lst wn (fun i => acc A A wn jj k i % st)).map (Value.int .i64)) ∧ Only gt wp wr) (fun u _ => wn - (intOf u).toNat)
                  case atStart => exact ⟨0, Nat.zero_le _, rfl, HN.out, HOn.out⟩
                  case round =>
                    clear HN HOn
                    obtain ⟨k, hk, rfl, hN, ho⟩ := hrel
                    have HN := Lib.hid hN
                    have HOn := Lib.hid ho
                    clear hN ho
                    by_cases hkl : k < wn
                    · --{T1
                      obtain ⟨m, hm⟩ : ∃ m, m = (jj + k) % wn := ⟨_, rfl⟩
                      have hmn : m < wn := by rw [hm]; exact Nat.mod_lt _ hpos
                      have hkm : ((jj : Int) + (k : Int)).tmod (wn : Int) = (m : Int) := by
                        rw [hm, show ((jj : Int) + (k : Int)) = ((jj + k : Nat) : Int) from by push_cast; rfl]
                        exact Int.ofNat_tmod _ _
                      have HBY2 := Lib.hid (is_other HBY.out HOn.out hbt)
                      obtain ⟨bb, ob, eb, _, hcb⟩ := HBY2.out.cells k hkl
                      cases eb
                      obtain ⟨bo, oo, eo, _, hco⟩ := HBY2.out.cells jj hjl
                      cases eo
                      dsimp only at hcb hco
                      rw [HAV.out, Nat.zero_add] at hcb
                      rw [HAV.out, Nat.zero_add] at hco
                      have f3 := (HR.out.other HOn.out (by omega)).cell 3
                      unfold rulL at f3
                      dsimp only [List.getElem?_cons_succ, List.getElem?_cons_zero] at f3
                      have hcell := (HN.out.cell m).trans (lst_getI hmn)
                      have hfrz := HN.out.frozen m
                      obtain ⟨ov, hov⟩ : ∃ ov, ov = acc A A wn jj k m % st := ⟨_, rfl⟩
                      have hovm : ov < st := by rw [hov]; exact Nat.mod_lt _ (by omega)
                      obtain ⟨x, hx⟩ : ∃ x, x = A jj := ⟨_, rfl⟩
                      have hx4 : x < st := by rw [hx]; exact HAL.out jj
                      obtain ⟨y, hy⟩ : ∃ y, y = A k := ⟨_, rfl⟩
                      have hy4 : y < st := by rw [hy]; exact HAL.out k
                      obtain ⟨pr, hpr⟩ : ∃ pr, pr = x * y := ⟨_, rfl⟩
                      have hpr16 : pr ≤ 16 := by
                        have := Nat.mul_le_mul (show x ≤ 4 by omega) (show y ≤ 4 by omega)
                        omega
                      obtain ⟨nv, hnv⟩ : ∃ nv, nv = (ov + pr) % st := ⟨_, rfl⟩
                      have hnvm : nv < st := by rw [hnv]; exact Nat.mod_lt _ (by omega)
                      have hset : Row (wr.setCell ⟨gt, m, none⟩ (.int .i64 ((nv : Nat) : Int))).drew gt 3 ((lst wn (fun i => acc A A wn jj (k + 1) i % st)).map (Value.int .i64)) := by
                        have h := HN.out.set m (.int .i64 ((nv : Nat) : Int))
                        rw [set_mapI, lst_set (G := fun i => acc A A wn jj (k + 1) i % st) (v := nv) ?_ ?_] at h
                        · exact h.drew
                        · show nv = acc A A wn jj (k + 1) m % st
                          rw [acc_next, if_pos hm.symm, hnv, hov, hpr, hx, hy, Nat.mod_add_mod]
                        · intro i hi hne
                          show acc A A wn jj k i % st = acc A A wn jj (k + 1) i % st
                          rw [acc_next, if_neg (fun h => hne (by rw [hm]; exact h.symm)), Nat.add_zero]
                      have ho : Only gt wr (wr.setCell ⟨gt, m, none⟩ (.int .i64 ((nv : Nat) : Int))).drew := (only_setCell wr gt m (.int .i64 ((nv : Nat) : Int))).trans ⟨rfl, rfl, rfl, rfl, fun _ _ => rfl⟩
                      have HSET := Lib.hid hset
                      have HOn2 := Lib.hid (HOn.out.trans ho)
                      rw [← hov] at hcell
                      rw [← hx] at hco
                      rw [← hy] at hcb
                      have hmul2 : (x : Int) * (y : Int) = (pr : Int) := by rw [hpr]; push_cast; rfl
                      have hmul : IntKind.i64.wrap ((x : Int) * (y : Int)) = (pr : Int) := by
                        rw [hmul2, IntKind.wrap_i64]; omega
                      have hmod : ((ov : Int) + (pr : Int)).tmod (st : Int) = (nv : Int) := by
                        rw [hnv, show ((ov : Int) + (pr : Int)) = ((ov + pr : Nat) : Int) from by push_cast; rfl]
                        exact Int.ofNat_tmod _ _
                      have u1 : IntKind.i64.wrap ((ov : Int) + (pr : Int)) = (ov : Int) + (pr : Int) := by rw [IntKind.wrap_i64]; omega
                      have u2 : IntKind.i64.wrap ((jj : Int) + (k : Int)) = (jj : Int) + (k : Int) := by rw [IntKind.wrap_i64]; omega
                      have u3 : IntKind.i64.wrap (pr : Int) = (pr : Int) := by rw [IntKind.wrap_i64]; omega
                      clear hset ho HN HOn hov hx hy hpr hnv hm HBY2
                      go_wp2_with fail
                      go_region_with (fail)
                      all_goals
                        clear f3 hcell hfrz hcb hco
                        generalize (wr.setCell ⟨gt, m, none⟩ (.int .i64 ((nv : Nat) : Int))).drew = w9 at *
                        go_wp2_with fail
                        go_roundw
                        case rel => exact ⟨k + 1, by omega, by go_num, HSET.out, HOn2.out⟩
                        case measure => simp [intOf]; omega
                      --}
                    · have ek : k = wn := by omega
                      subst ek
                      go_wp2_with fail
                      go_roundw
                      case rel => exact ⟨jj + 1, by omega, by go_num, HN.out, HOn.out⟩
                      case measure => simp [intOf]; omega
                · have ej : jj = wn := by omega
                  subst ej
                  have HBT := Lib.hid (row_isN HN.out lst_len (by unfold maxLen; omega))
                  have HD2 : Hid (DoesR t st ra jj (wf (lst jj (fun i => acc A A jj jj 0 i % st))) (2 * e)) := doesR_congr hpos (doesR_twice hpos (by omega) HTL.out HDO.out) fun k hk => by
                    rw [wf_lst hk, acc_conv, HAE.out]
                  have HB2L : Hid (∀ z ∈ lst jj (fun i => acc A A jj jj 0 i % st), 0 ≤ z ∧ z < (st : Int)) := lst_mem fun k => Nat.mod_lt _ (by omega)
                  have HO2 := Lib.hid (is_other HO2.out HOn.out hot)
                  have HR := Lib.hid (HR.out.other HOn.out (by omega))
                  have HB := Lib.hid (HB.out.trans (HOn.out.below hwt))
                  clear HN HOn HBY HAV HAL HAE
                  generalize lst jj (fun i => acc A A jj jj 0 i % st) = bz2 at *
                  go_wp2_with fail
                  go_roundw
                  case rel => exact ⟨q, d, 2 * e, gt, go0, bz2, rfl, by omega, HDN.out, rfl, rfl, HBT.out, HO2.out, HB2L.out, HD2.out, HR.out, HB.out⟩
                  case measure => simp [intOf]; omega
              --}
          · have hz0 : nn = 0 := by omega
            have HDN : Hid (d = n) := by
              have := HDE.out
              rw [hz0, Nat.zero_mul] at this
              exact this
            subst hz0
            have HRG : Hid (lst wn (go t st ra wn (wf wz) d) = runL t st ra wz n) := by
              show _ = _
              rw [HWE.out, HDN.out]
            go_wp2_with fail
            go_ret
            exact ⟨⟨_, wn, rfl, by rw [← HRG.out]; exact HO.out⟩, HB.out⟩
end Ln
end Go.Proofs.YtahhhbdnhimbfaaDoor
